/- Plain facts on the program's scalars: bytes as a number of eight pieces, and what doubling and taking the order away come to; no program in sight. -/
import Derived.Test.YtlajcahlmbjmnaaYFldB
namespace Go.Proofs.Ytlajcahlmbjmnaa.FldS
open Go.RowKit Go.Proofs.Ytlajcahlmbjmnaa.Arr Go.Proofs.Ytlajcahlmbjmnaa.Limb Go.Proofs.Ytlajcahlmbjmnaa.FldA Go.Proofs.Ytlajcahlmbjmnaa.FldB Go.Proofs.YtlajcahlmbjmnaaW.PrintWords
set_option linter.unusedVariables false
def orderN : Nat := 7237005577332262213973186563042994240857116359379907606001950938285454250989
theorem orderN_eq : orderN = 7237005577332262213973186563042994240857116359379907606001950938285454250989 := rfl
theorem num_order : [6346243789798364141, 1503914060200516822, 0, 1152921504606846976] = num orderN := by decide
theorem two_pow_split (i : Nat) : 2 ^ i = P64 ^ (i / 64) * 2 ^ (i % 64) := by
  rw [p64_pow, ← Nat.pow_add, show 64 * (i / 64) + i % 64 = i from by omega]
theorem wid_bit (W i : Nat) (hi : i < 512) : ((wid W).getD (i / 64) 0 / 2 ^ (i % 64)) % 2 = ((W / 2 ^ i % 2 : Nat) : Int) := by
  unfold wid
  rw [limbs_getD _ _ _ _ (by omega)]
  have h : P64 = 2 ^ (i % 64) * 2 ^ (64 - i % 64) := by rw [← Nat.pow_add, show i % 64 + (64 - i % 64) = 64 from by omega]; rfl
  have e : W / P64 ^ (i / 64) % P64 / 2 ^ (i % 64) % 2 = W / 2 ^ i % 2 := by
    rw [two_pow_split i, ← Nat.div_div_eq_div_mul]
    generalize W / P64 ^ (i / 64) = y
    rw [h, Nat.mod_mul_right_div_self]
    refine Nat.mod_mod_of_dvd _ ⟨2 ^ (63 - i % 64), ?_⟩
    rw [← Nat.pow_succ']; congr 1; omega
  rw [← e]
  simp
theorem bit_and (v : Int) (q : Nat) (h0 : 0 ≤ v) (h1 : v < 18446744073709551616) : bits .and .u64 (v / 2 ^ q) 1 = v / 2 ^ q % 2 := by
  obtain ⟨V, rfl⟩ := Int.eq_ofNat_of_zero_le h0
  have e : (V : Int) / 2 ^ q = ((V / 2 ^ q : Nat) : Int) := by simp
  have hlt : V / 2 ^ q < 18446744073709551616 := Nat.lt_of_le_of_lt (Nat.div_le_self _ _) (by omega)
  rw [e]
  have := u64_and_nat (V / 2 ^ q) 1 hlt (by omega)
  rw [show ((1 : Nat) : Int) = 1 from rfl] at this
  rw [this, Nat.and_one_is_mod]
  simp
theorem wid_and (W i : Nat) (hi : i < 512) : bits .and .u64 ((wid W).getD (i / 64) 0 / 2 ^ (i % 64)) 1 = ((W / 2 ^ i % 2 : Nat) : Int) := by
  have r := getD_range (wid_ok W) (i / 64) (by rw [wid_length]; omega)
  rw [bit_and _ _ r.1 r.2, wid_bit W i hi]
theorem even_or (x b : Nat) (hb : b < 2) : (num (2 * x)).set 0 (bits .or .u64 ((num (2 * x)).getD 0 0) (b : Int)) = num (2 * x + b) := by
  have e0 : (num (2 * x)).getD 0 0 = ((2 * x % P64 : Nat) : Int) := by
    unfold num; rw [limbs_getD _ _ _ _ (by omega), Nat.pow_zero, Nat.div_one]
  have hm : 2 * x % P64 = 2 * (x % 9223372036854775808) := by rw [P64_eq]; omega
  have hlt : 2 * x % P64 < 2 ^ 64 := by rw [P64_eq]; omega
  have eo : bits .or .u64 ((2 * x % P64 : Nat) : Int) (b : Int) = ((2 * x % P64 + b : Nat) : Int) := by
    rw [u64_or_nat _ _ (by omega) (by omega), hm]
    have : (2 * (x % 9223372036854775808)) ||| b = 2 ^ 1 * (x % 9223372036854775808) + b := by
      rw [← Nat.two_pow_add_eq_or_of_lt (i := 1) (by omega)]
    rw [this]
  rw [e0, eo]
  refine eq_num (ok_set (num_ok _) 0 _ (Int.natCast_nonneg _) ?_) (by simp [num_length]) _ ?_
  · rw [P64_eq]; rw [P64_eq] at hm; omega
  · rw [lval_set _ _ _ _ (by rw [num_length]; omega), num_val, e0, Int.pow_zero]
    have h4 : P64 ^ 4 = 2 * 57896044618658097711785492504343953926634992332820282019728792003956564819968 := by decide
    rw [h4]
    omega
theorem wide_top0 (W i k : Nat) (hW : W < P64 ^ i) (hk : 64 * i = k) : W / 2 ^ k = 0 := by
  rw [← hk, ← p64_pow]
  exact Nat.div_eq_of_lt hW
theorem wide_top (W k : Nat) (hW : W < P64 ^ 8) (hk : 64 * 8 = k) : num (W / 2 ^ k % orderN) = [0, 0, 0, 0] := by
  rw [wide_top0 W 8 k hW hk]
  decide
theorem round_mod (W i : Nat) : (2 * (W / 2 ^ (i + 1) % orderN) + W / 2 ^ i % 2) % orderN = W / 2 ^ i % orderN := by
  have h : W / 2 ^ i = 2 * (W / 2 ^ (i + 1)) + W / 2 ^ i % 2 := by
    rw [Nat.pow_succ, ← Nat.div_div_eq_div_mul]; omega
  generalize W / 2 ^ (i + 1) = a at *
  generalize W / 2 ^ i % 2 = b at *
  rw [h]
  rw [orderN_eq]
  omega
end Go.Proofs.Ytlajcahlmbjmnaa.FldS
