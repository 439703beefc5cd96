/- Plain facts on the program's scalars: bytes as a number of eight pieces, and what doubling and taking the order away come to; no program in sight. -/
import Derived.Test.YtmkemagjedihmaaYFldB
namespace Go.Proofs.Ytmkemagjedihmaa.FldS
open Go.RowKit Go.Proofs.Ytmkemagjedihmaa.Arr Go.Proofs.Ytmkemagjedihmaa.Limb Go.Proofs.Ytmkemagjedihmaa.FldA Go.Proofs.Ytmkemagjedihmaa.FldB Go.Proofs.YtmkemagjedihmaaW.PrintWords
set_option linter.unusedVariables false

def orderN : Nat := 7237005577332262213973186563042994240857116359379907606001950938285454250989
theorem orderN_eq : orderN = 7237005577332262213973186563042994240857116359379907606001950938285454250989 := rfl
theorem num_order : [6346243789798364141, 1503914060200516822, 0, 1152921504606846976] = num orderN := by decide
def z8s : List Int := [0, 0, 0, 0, 0, 0, 0, 0]
def wofS (l : List Int) : Nat → List Int
  | 0 => z8s
  | k + 1 => (wofS l k).set (k / 8) (bits .or .u64 ((wofS l k).getD (k / 8) 0) (IntKind.u64.wrap (IntKind.u64.wrap (rd l k) * 2 ^ (8 * (k % 8)))))
theorem wofS_length (l : List Int) (k : Nat) : (wofS l k).length = 8 := by
  induction k with
  | zero => rfl
  | succ k ih => simp [wofS, ih]
theorem wofS_step (V c k : Nat) (hV : V < 256 ^ k) (hc : c < 256) (hk : k < 64) :
    (wid V).set (k / 8) (bits .or .u64 ((wid V).getD (k / 8) 0) (IntKind.u64.wrap (IntKind.u64.wrap (c : Int) * 2 ^ (8 * (k % 8))))) = wid (V + c * 256 ^ k) := by
  obtain ⟨i, hi⟩ : ∃ i, i = k / 8 := ⟨_, rfl⟩
  obtain ⟨q, hq⟩ : ∃ q, q = k % 8 := ⟨_, rfl⟩
  have hkk : k = 8 * i + q := by omega
  have i4 : i < 8 := by omega
  have q8 : q < 8 := by omega
  rw [← hi, ← hq]
  have hpc : c * 2 ^ (8 * q) < 2 ^ 64 := by
    have h1 : c * 2 ^ (8 * q) < 256 * 2 ^ (8 * q) := Nat.mul_lt_mul_of_pos_right hc (Nat.two_pow_pos _)
    have h2 : 256 * 2 ^ (8 * q) = 2 ^ (8 + 8 * q) := by rw [Nat.pow_add]
    have h3 : 2 ^ (8 + 8 * q) ≤ 2 ^ 64 := Nat.pow_le_pow_right (by decide) (by omega)
    omega
  have e1 : IntKind.u64.wrap (IntKind.u64.wrap (c : Int) * 2 ^ (8 * q)) = ((c * 2 ^ (8 * q) : Nat) : Int) := by
    have ec : IntKind.u64.wrap (c : Int) = (c : Int) := by rw [IntKind.wrap_u64]; omega
    have : (c : Int) * 2 ^ (8 * q) = ((c * 2 ^ (8 * q) : Nat) : Int) := by simp
    rw [ec, this, IntKind.wrap_u64]
    generalize c * 2 ^ (8 * q) = Y at hpc ⊢
    omega
  have hp : V / P64 ^ i < 2 ^ (8 * q) := by
    rw [Nat.div_lt_iff_lt_mul (Nat.pow_pos (by decide)), p64_pow, ← Nat.pow_add]
    rw [p256_pow, hkk] at hV
    rw [show 8 * q + 64 * i = 8 * (8 * i + q) from by omega]; exact hV
  have hq64 : 2 ^ (8 * q) ≤ 2 ^ 64 := Nat.pow_le_pow_right (by decide) (by omega)
  have e2 : (wid V).getD i 0 = ((V / P64 ^ i : Nat) : Int) := by
    unfold wid
    rw [limbs_getD _ _ _ _ i4, Nat.mod_eq_of_lt (by have := P64_eq; omega)]
  have e3 : bits .or .u64 ((wid V).getD i 0) ((c * 2 ^ (8 * q) : Nat) : Int) = ((V / P64 ^ i + c * 2 ^ (8 * q) : Nat) : Int) := by
    rw [e2, u64_or_nat _ _ (by omega) (by omega), Nat.or_comm, nat_join (8 * q) _ _ (by simp) hp, Nat.add_comm]
  rw [e1, e3]
  have hsum : V / P64 ^ i + c * 2 ^ (8 * q) < 2 ^ 64 := by
    have h1 : (c + 1) * 2 ^ (8 * q) ≤ 256 * 2 ^ (8 * q) := Nat.mul_le_mul_right _ (by omega)
    have h2 : 256 * 2 ^ (8 * q) = 2 ^ (8 + 8 * q) := by rw [Nat.pow_add]
    have h3 : 2 ^ (8 + 8 * q) ≤ 2 ^ 64 := Nat.pow_le_pow_right (by decide) (by omega)
    rw [Nat.add_mul] at h1
    rw [h2] at h1
    generalize c * 2 ^ (8 * q) = Y at h1 ⊢
    generalize 2 ^ (8 + 8 * q) = Z at h1 h3
    generalize 2 ^ (8 * q) = X at h1 hp
    generalize V / P64 ^ i = D at hp ⊢
    omega
  refine eq_wid (ok_set (wid_ok V) i _ (Int.natCast_nonneg _) (by have := P64_eq; omega)) (by simp [wid_length]) _ ?_
  rw [lval_set _ _ _ _ (by rw [wid_length]; exact i4), wid_val, e2]
  have h2 : P64 ^ 8 = 256 ^ 64 := by decide
  have hVm : V < P64 ^ 8 := by
    have : 256 ^ k ≤ 256 ^ 64 := Nat.pow_le_pow_right (by decide) (by omega)
    omega
  have hSm : V + c * 256 ^ k < P64 ^ 8 := by
    have h0 : (c + 1) * 256 ^ k ≤ 256 * 256 ^ k := Nat.mul_le_mul_right _ (by omega)
    have h1 : 256 * 256 ^ k = 256 ^ (k + 1) := by rw [Nat.pow_succ']
    have : 256 ^ (k + 1) ≤ 256 ^ 64 := Nat.pow_le_pow_right (by decide) (by omega)
    rw [Nat.add_mul] at h0
    omega
  rw [Nat.mod_eq_of_lt hVm, Nat.mod_eq_of_lt hSm]
  have e4 : P64 ^ i * (c * 2 ^ (8 * q)) = c * 256 ^ k := by
    rw [p64_pow, p256_pow, hkk, show 8 * (8 * i + q) = 64 * i + 8 * q from by omega, Nat.pow_add]
    rw [Nat.mul_left_comm]
  have e5 : (P64 : Int) ^ i * (((V / P64 ^ i + c * 2 ^ (8 * q) : Nat) : Int) - ((V / P64 ^ i : Nat) : Int)) = ((P64 ^ i * (c * 2 ^ (8 * q)) : Nat) : Int) := by
    rw [show (((V / P64 ^ i + c * 2 ^ (8 * q) : Nat) : Int) - ((V / P64 ^ i : Nat) : Int)) = ((c * 2 ^ (8 * q) : Nat) : Int) from by omega]
    simp
  rw [e5, e4]
  omega
theorem wofS_val (l : List Int) (h : Ok 256 l) (k : Nat) (hk : k ≤ l.length) (h64 : l.length ≤ 64) : wofS l k = wid (bval (l.take k)) := by
  induction k with
  | zero => simp [wofS, bval, lval, wid, limbs, z8s]
  | succ k ih =>
    have ih := ih (by omega)
    have hlt : k < l.length := by omega
    have e : rd l k = l[k] := by simp [rd, List.getD_eq_getElem?_getD, List.getElem?_eq_getElem hlt]
    have hc := h l[k] (List.getElem_mem hlt)
    have ht : Ok 256 (l.take k) := fun y hy => h y (List.mem_of_mem_take hy)
    have hl : (l.take k).length = k := by rw [List.length_take]; omega
    obtain ⟨c, hcc⟩ := Int.eq_ofNat_of_zero_le hc.1
    have hb := bval_lt _ ht
    rw [hl] at hb
    unfold wofS
    rw [ih, e, hcc, wofS_step _ c k hb (by omega) (by omega), List.take_succ_eq_append_getElem hlt, bval_snoc _ _ ht hc.1, hl, hcc, Int.toNat_natCast]
theorem wofS_all (l : List Int) (h : Ok 256 l) (h64 : l.length ≤ 64) : wofS l l.length = wid (bval l) := by
  rw [wofS_val l h l.length (by omega) h64, List.take_length]

/- one bit of a number in pieces -/
theorem two_pow_split (i : Nat) : 2 ^ i = P64 ^ (i / 64) * 2 ^ (i % 64) := by
  rw [p64_pow, ← Nat.pow_add, show 64 * (i / 64) + i % 64 = i from by omega]
theorem wid_bit (W i : Nat) (hi : i < 512) : ((wid W).getD (i / 64) 0 / 2 ^ (i % 64)) % 2 = ((W / 2 ^ i % 2 : Nat) : Int) := by
  unfold wid
  rw [limbs_getD _ _ _ _ (by omega)]
  have h : P64 = 2 ^ (i % 64) * 2 ^ (64 - i % 64) := by rw [← Nat.pow_add, show i % 64 + (64 - i % 64) = 64 from by omega]; rfl
  have e : W / P64 ^ (i / 64) % P64 / 2 ^ (i % 64) % 2 = W / 2 ^ i % 2 := by
    rw [two_pow_split i, ← Nat.div_div_eq_div_mul]
    generalize W / P64 ^ (i / 64) = y
    rw [h, Nat.mod_mul_right_div_self]
    refine Nat.mod_mod_of_dvd _ ⟨2 ^ (63 - i % 64), ?_⟩
    rw [← Nat.pow_succ']; congr 1; omega
  rw [← e]
  simp
theorem bit_and (v : Int) (q : Nat) (h0 : 0 ≤ v) (h1 : v < 18446744073709551616) : bits .and .u64 (v / 2 ^ q) 1 = v / 2 ^ q % 2 := by
  obtain ⟨V, rfl⟩ := Int.eq_ofNat_of_zero_le h0
  have e : (V : Int) / 2 ^ q = ((V / 2 ^ q : Nat) : Int) := by simp
  have hlt : V / 2 ^ q < 18446744073709551616 := Nat.lt_of_le_of_lt (Nat.div_le_self _ _) (by omega)
  rw [e]
  have := u64_and_nat (V / 2 ^ q) 1 hlt (by omega)
  rw [show ((1 : Nat) : Int) = 1 from rfl] at this
  rw [this, Nat.and_one_is_mod]
  simp
theorem wid_and (W i : Nat) (hi : i < 512) : bits .and .u64 ((wid W).getD (i / 64) 0 / 2 ^ (i % 64)) 1 = ((W / 2 ^ i % 2 : Nat) : Int) := by
  have r := getD_range (wid_ok W) (i / 64) (by rw [wid_length]; omega)
  rw [bit_and _ _ r.1 r.2, wid_bit W i hi]
/- the lowest bit of an even number set -/
theorem even_or (x b : Nat) (hb : b < 2) : (num (2 * x)).set 0 (bits .or .u64 ((num (2 * x)).getD 0 0) (b : Int)) = num (2 * x + b) := by
  have e0 : (num (2 * x)).getD 0 0 = ((2 * x % P64 : Nat) : Int) := by
    unfold num; rw [limbs_getD _ _ _ _ (by omega), Nat.pow_zero, Nat.div_one]
  have hm : 2 * x % P64 = 2 * (x % 9223372036854775808) := by rw [P64_eq]; omega
  have hlt : 2 * x % P64 < 2 ^ 64 := by rw [P64_eq]; omega
  have eo : bits .or .u64 ((2 * x % P64 : Nat) : Int) (b : Int) = ((2 * x % P64 + b : Nat) : Int) := by
    rw [u64_or_nat _ _ (by omega) (by omega), hm]
    have : (2 * (x % 9223372036854775808)) ||| b = 2 ^ 1 * (x % 9223372036854775808) + b := by
      rw [← Nat.two_pow_add_eq_or_of_lt (i := 1) (by omega)]
    rw [this]
  rw [e0, eo]
  refine eq_num (ok_set (num_ok _) 0 _ (Int.natCast_nonneg _) ?_) (by simp [num_length]) _ ?_
  · rw [P64_eq]; rw [P64_eq] at hm; omega
  · rw [lval_set _ _ _ _ (by rw [num_length]; omega), num_val, e0, Int.pow_zero]
    have h4 : P64 ^ 4 = 2 * 57896044618658097711785492504343953926634992332820282019728792003956564819968 := by decide
    rw [h4]
    omega
theorem wide_top0 (W i k : Nat) (hW : W < P64 ^ i) (hk : 64 * i = k) : W / 2 ^ k = 0 := by
  rw [← hk, ← p64_pow]
  exact Nat.div_eq_of_lt hW
theorem wide_top (W k : Nat) (hW : W < P64 ^ 8) (hk : 64 * 8 = k) : num (W / 2 ^ k % orderN) = [0, 0, 0, 0] := by
  rw [wide_top0 W 8 k hW hk]
  decide
/- one round: doubled, a bit added, the order taken away -/
theorem round_mod (W i : Nat) : (2 * (W / 2 ^ (i + 1) % orderN) + W / 2 ^ i % 2) % orderN = W / 2 ^ i % orderN := by
  have h : W / 2 ^ i = 2 * (W / 2 ^ (i + 1)) + W / 2 ^ i % 2 := by
    rw [Nat.pow_succ, ← Nat.div_div_eq_div_mul]; omega
  generalize W / 2 ^ (i + 1) = a at *
  generalize W / 2 ^ i % 2 = b at *
  rw [h]
  rw [orderN_eq]
  omega
end Go.Proofs.Ytmkemagjedihmaa.FldS
