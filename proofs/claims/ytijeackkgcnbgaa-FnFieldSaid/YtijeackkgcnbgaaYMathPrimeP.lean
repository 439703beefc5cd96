/- The number 2 to the 255 less 19 is a prime. -/
import Derived.Test.YtijeackkgcnbgaaYMathPrime
namespace Go.Proofs.Ytijeackkgcnbgaa.Prime
def PP : Nat := 57896044618658097711785492504343953926634992332820282019728792003956564819949
def Q1 : Nat := 74058212732561358302231226437062788676166966415465897661863160754340907
def Q2 : Nat := 75445702479781427272750846543864801
def Q3 : Nat := 1919519569386763
theorem pr_127 : Pr 127 := prime_tri 11 (by decide) (by decide) (by decide +kernel)
theorem pr_8574133 : Pr 8574133 := prime_tri 2930 (by decide) (by decide) (by decide +kernel)
theorem pr_75707 : Pr 75707 := prime_tri 300 (by decide) (by decide) (by decide +kernel)
theorem pr_1923133 : Pr 1923133 := prime_tri 1400 (by decide) (by decide) (by decide +kernel)
theorem ne_of {a b : Nat} (h : (a == b) = false) : a ≠ b := fun e => by subst e; simp at h
theorem pr_ne {p q : Nat} (hp : Pr p) (hq : Pr q) (h : (q == p) = false) : Nat.Coprime p q := hp.coprime (fun hd => by
  rcases hq.2 p hd with e | e
  · have := hp.1; omega
  · subst e; simp at h)
theorem two {n p q : Nat} (a k : Nat) (hn : 1 < n) (hp : Pr p) (hq : Pr q) (hpq : (q == p) = false) (hF : n < (p * q + 1) * (p * q + 1)) (hk : n < 2 ^ k) (d1 : (n - 1) % p = 0) (d2 : (n - 1) % q = 0)
    (h1 : pm k a (n - 1) n = 1) (g1 : Nat.gcd (pm k a ((n - 1) / p) n + (n - 1)) n = 1) (g2 : Nat.gcd (pm k a ((n - 1) / q) n + (n - 1)) n = 1) : Pr n := by
  have lt : ∀ x, (n - 1) / x < 2 ^ k := fun x => Nat.lt_of_le_of_lt (Nat.div_le_self _ _) (by omega)
  rw [pm_eq n k a _ (by omega)] at h1
  rw [pm_eq n k a _ (lt _)] at g1 g2
  exact prime_of hn hF (fun r hr hrn => (pr_ne hp hq hpq).mul_dvd_of_dvd_of_dvd (pock hn hp (Nat.dvd_of_mod_eq_zero d1) h1 g1 hr hrn) (pock hn hq (Nat.dvd_of_mod_eq_zero d2) h1 g2 hr hrn))
theorem one {n p : Nat} (a k : Nat) (hn : 1 < n) (hp : Pr p) (hF : n < (p + 1) * (p + 1)) (hk : n < 2 ^ k) (d1 : (n - 1) % p = 0)
    (h1 : pm k a (n - 1) n = 1) (g1 : Nat.gcd (pm k a ((n - 1) / p) n + (n - 1)) n = 1) : Pr n := by
  have lt : ∀ x, (n - 1) / x < 2 ^ k := fun x => Nat.lt_of_le_of_lt (Nat.div_le_self _ _) (by omega)
  rw [pm_eq n k a _ (by omega)] at h1
  rw [pm_eq n k a _ (lt _)] at g1
  exact prime_of hn hF (fun r hr hrn => pock hn hp (Nat.dvd_of_mod_eq_zero d1) h1 g1 hr hrn)
theorem pr_Q3 : Pr Q3 := two 2 51 (by decide +kernel) pr_8574133 pr_127 (by decide +kernel) (by decide +kernel) (by decide +kernel) (by decide +kernel) (by decide +kernel) (by decide +kernel) (by decide +kernel) (by decide +kernel)
theorem pr_Q2 : Pr Q2 := two 2 116 (by decide +kernel) pr_Q3 pr_75707 (by decide +kernel) (by decide +kernel) (by decide +kernel) (by decide +kernel) (by decide +kernel) (by decide +kernel) (by decide +kernel) (by decide +kernel)
theorem pr_Q1 : Pr Q1 := two 2 236 (by decide +kernel) pr_Q2 pr_1923133 (by decide +kernel) (by decide +kernel) (by decide +kernel) (by decide +kernel) (by decide +kernel) (by decide +kernel) (by decide +kernel) (by decide +kernel)
theorem pr_PP : Pr PP := one 2 255 (by decide +kernel) pr_Q1 (by decide +kernel) (by decide +kernel) (by decide +kernel) (by decide +kernel) (by decide +kernel)
end Go.Proofs.Ytijeackkgcnbgaa.Prime
