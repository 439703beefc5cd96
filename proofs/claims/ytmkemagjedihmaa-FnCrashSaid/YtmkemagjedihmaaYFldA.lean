/- Plain facts on numbers in pieces: what the program's loops over four pieces of 64 bits come to; no program in sight. -/
import Derived.Test.YtmkemagjedihmaaYArr
import Derived.Laws.BitsAllLaws
namespace Go.Proofs.Ytmkemagjedihmaa.FldA
open Go.RowKit Go.Proofs.Ytmkemagjedihmaa.Arr Go.Proofs.Ytmkemagjedihmaa.Limb Go.Proofs.YtmkemagjedihmaaW.PrintWords
set_option linter.unusedVariables false

theorem limbs_getD (B n x i : Nat) (hi : i < n) : (limbs B n x).getD i 0 = ((x / B ^ i % B : Nat) : Int) := by
  induction n generalizing x i with
  | zero => omega
  | succ n ih =>
    cases i with
    | zero => simp [limbs]
    | succ i =>
      simp only [limbs, List.getD_cons_succ]
      rw [ih _ _ (by omega), Nat.pow_succ', Nat.div_div_eq_div_mul]

/- bytes, the lowest first, as a number -/
def bval (l : List Int) : Nat := (lval 256 l).toNat
theorem bval_cast (l : List Int) (h : Ok 256 l) : (bval l : Int) = lval 256 l := by
  have := lval_nonneg 256 l h
  unfold bval; omega
theorem bval_snoc (l : List Int) (c : Int) (h : Ok 256 l) (h0 : 0 ≤ c) : bval (l ++ [c]) = bval l + c.toNat * 256 ^ l.length := by
  have h1 := bval_cast l h
  obtain ⟨C, rfl⟩ := Int.eq_ofNat_of_zero_le h0
  unfold bval
  rw [lval_append, ← h1]
  simp only [lval]
  have e : (bval l : Int) + ((256 : Nat) : Int) ^ l.length * ((C : Int) + ((256 : Nat) : Int) * 0) = ((bval l + C * 256 ^ l.length : Nat) : Int) := by simp [Int.mul_comm]
  rw [e]
  simp only [Int.toNat_natCast]
theorem bval_lt (l : List Int) (h : Ok 256 l) : bval l < 256 ^ l.length := by
  have h1 := limbs_lval 256 (by decide) l h
  have h2 := lval_limbs 256 (by decide) l.length (lval 256 l).toNat
  rw [h1] at h2
  have := Nat.mod_lt (lval 256 l).toNat (Nat.pow_pos (n := l.length) (show 0 < 256 by decide))
  unfold bval
  omega

def nofS (l : List Int) : Nat → List Int
  | 0 => [0, 0, 0, 0]
  | k + 1 => (nofS l k).set (k / 8) (bits .or .u64 ((nofS l k).getD (k / 8) 0) (IntKind.u64.wrap (IntKind.u64.wrap (rd l k) * 2 ^ (8 * (k % 8)))))
theorem nofS_length (l : List Int) (k : Nat) : (nofS l k).length = 4 := by
  induction k with
  | zero => rfl
  | succ k ih => simp [nofS, ih]
theorem p64_pow (i : Nat) : P64 ^ i = 2 ^ (64 * i) := by rw [show P64 = 2 ^ 64 from rfl, ← Nat.pow_mul]
theorem p256_pow (k : Nat) : 256 ^ k = 2 ^ (8 * k) := by rw [show 256 = 2 ^ 8 from rfl, ← Nat.pow_mul]
theorem P64_eq : P64 = 18446744073709551616 := rfl
theorem nofS_step (V c k : Nat) (hV : V < 256 ^ k) (hc : c < 256) (hk : k < 32) :
    (num V).set (k / 8) (bits .or .u64 ((num V).getD (k / 8) 0) (IntKind.u64.wrap (IntKind.u64.wrap (c : Int) * 2 ^ (8 * (k % 8))))) = num (V + c * 256 ^ k) := by
  obtain ⟨i, hi⟩ : ∃ i, i = k / 8 := ⟨_, rfl⟩
  obtain ⟨q, hq⟩ : ∃ q, q = k % 8 := ⟨_, rfl⟩
  have hkk : k = 8 * i + q := by omega
  have i4 : i < 4 := by omega
  have q8 : q < 8 := by omega
  rw [← hi, ← hq]
  have hpc : c * 2 ^ (8 * q) < 2 ^ 64 := by
    have h1 : c * 2 ^ (8 * q) < 256 * 2 ^ (8 * q) := Nat.mul_lt_mul_of_pos_right hc (Nat.two_pow_pos _)
    have h2 : 256 * 2 ^ (8 * q) = 2 ^ (8 + 8 * q) := by rw [Nat.pow_add]
    have h3 : 2 ^ (8 + 8 * q) ≤ 2 ^ 64 := Nat.pow_le_pow_right (by decide) (by omega)
    omega
  have e1 : IntKind.u64.wrap (IntKind.u64.wrap (c : Int) * 2 ^ (8 * q)) = ((c * 2 ^ (8 * q) : Nat) : Int) := by
    have ec : IntKind.u64.wrap (c : Int) = (c : Int) := by rw [IntKind.wrap_u64]; omega
    have : (c : Int) * 2 ^ (8 * q) = ((c * 2 ^ (8 * q) : Nat) : Int) := by simp
    rw [ec, this, IntKind.wrap_u64]
    generalize c * 2 ^ (8 * q) = Y at hpc ⊢
    omega
  have hp : V / P64 ^ i < 2 ^ (8 * q) := by
    rw [Nat.div_lt_iff_lt_mul (Nat.pow_pos (by decide)), p64_pow, ← Nat.pow_add]
    rw [p256_pow, hkk] at hV
    rw [show 8 * q + 64 * i = 8 * (8 * i + q) from by omega]; exact hV
  have hq64 : 2 ^ (8 * q) ≤ 2 ^ 64 := Nat.pow_le_pow_right (by decide) (by omega)
  have e2 : (num V).getD i 0 = ((V / P64 ^ i : Nat) : Int) := by
    unfold num
    rw [limbs_getD _ _ _ _ i4, Nat.mod_eq_of_lt (by have := P64_eq; omega)]
  have e3 : bits .or .u64 ((num V).getD i 0) ((c * 2 ^ (8 * q) : Nat) : Int) = ((V / P64 ^ i + c * 2 ^ (8 * q) : Nat) : Int) := by
    rw [e2, u64_or_nat _ _ (by omega) (by omega), Nat.or_comm, nat_join (8 * q) _ _ (by simp) hp, Nat.add_comm]
  rw [e1, e3]
  have hsum : V / P64 ^ i + c * 2 ^ (8 * q) < 2 ^ 64 := by
    have h1 : (c + 1) * 2 ^ (8 * q) ≤ 256 * 2 ^ (8 * q) := Nat.mul_le_mul_right _ (by omega)
    have h2 : 256 * 2 ^ (8 * q) = 2 ^ (8 + 8 * q) := by rw [Nat.pow_add]
    have h3 : 2 ^ (8 + 8 * q) ≤ 2 ^ 64 := Nat.pow_le_pow_right (by decide) (by omega)
    rw [Nat.add_mul] at h1
    rw [h2] at h1
    generalize c * 2 ^ (8 * q) = Y at h1 ⊢
    generalize 2 ^ (8 + 8 * q) = Z at h1 h3
    generalize 2 ^ (8 * q) = X at h1 hp
    generalize V / P64 ^ i = D at hp ⊢
    omega
  refine eq_num (ok_set (num_ok V) i _ (Int.natCast_nonneg _) (by have := P64_eq; omega)) (by simp [num_length]) _ ?_
  rw [lval_set _ _ _ _ (by rw [num_length]; exact i4), num_val, e2]
  have hVm : V < P64 ^ 4 := by
    have : 256 ^ k ≤ 256 ^ 32 := Nat.pow_le_pow_right (by decide) (by omega)
    have h2 : P64 ^ 4 = 256 ^ 32 := by decide
    omega
  have hSm : V + c * 256 ^ k < P64 ^ 4 := by
    have h0 : (c + 1) * 256 ^ k ≤ 256 * 256 ^ k := Nat.mul_le_mul_right _ (by omega)
    have h1 : 256 * 256 ^ k = 256 ^ (k + 1) := by rw [Nat.pow_succ']
    have : 256 ^ (k + 1) ≤ 256 ^ 32 := Nat.pow_le_pow_right (by decide) (by omega)
    have h2 : P64 ^ 4 = 256 ^ 32 := by decide
    rw [Nat.add_mul] at h0
    omega
  rw [Nat.mod_eq_of_lt hVm, Nat.mod_eq_of_lt hSm]
  have e4 : P64 ^ i * (c * 2 ^ (8 * q)) = c * 256 ^ k := by
    rw [p64_pow, p256_pow, hkk, show 8 * (8 * i + q) = 64 * i + 8 * q from by omega, Nat.pow_add]
    rw [Nat.mul_left_comm]
  have e5 : (P64 : Int) ^ i * (((V / P64 ^ i + c * 2 ^ (8 * q) : Nat) : Int) - ((V / P64 ^ i : Nat) : Int)) = ((P64 ^ i * (c * 2 ^ (8 * q)) : Nat) : Int) := by
    rw [show (((V / P64 ^ i + c * 2 ^ (8 * q) : Nat) : Int) - ((V / P64 ^ i : Nat) : Int)) = ((c * 2 ^ (8 * q) : Nat) : Int) from by omega]
    simp
  rw [e5, e4]
  omega
theorem nofS_val (l : List Int) (h : Ok 256 l) (k : Nat) (hk : k ≤ l.length) (h32 : l.length ≤ 32) : nofS l k = num (bval (l.take k)) := by
  induction k with
  | zero => simp [nofS, bval, lval, num, limbs]
  | succ k ih =>
    have ih := ih (by omega)
    have hlt : k < l.length := by omega
    have e : rd l k = l[k] := by simp [rd, List.getD_eq_getElem?_getD, List.getElem?_eq_getElem hlt]
    have hc := h l[k] (List.getElem_mem hlt)
    have ht : Ok 256 (l.take k) := fun y hy => h y (List.mem_of_mem_take hy)
    have hl : (l.take k).length = k := by rw [List.length_take]; omega
    obtain ⟨c, hcc⟩ := Int.eq_ofNat_of_zero_le hc.1
    have hb := bval_lt _ ht
    rw [hl] at hb
    unfold nofS
    rw [ih, e, hcc, nofS_step _ c k hb (by omega) (by omega), List.take_succ_eq_append_getElem hlt, bval_snoc _ _ ht hc.1, hl, hcc, Int.toNat_natCast]
theorem nofS_all (l : List Int) (h : Ok 256 l) (h32 : l.length ≤ 32) : nofS l l.length = num (bval l) := by
  rw [nofS_val l h l.length (by omega) h32, List.take_length]

/- the bytes of a number -/
def bytS (xs : List Int) : Nat → List Int
  | 0 => List.replicate 32 0
  | k + 1 => (bytS xs k).set k ((xs.getD (k / 8) 0 / 2 ^ (8 * (k % 8))) % 256)
theorem bytS_length (xs : List Int) (k : Nat) : (bytS xs k).length = 32 := by
  induction k with
  | zero => simp [bytS]
  | succ k ih => simp [bytS, ih]
theorem getD_setI (l : List Int) (i j : Nat) (v : Int) (hi : i < l.length) : (l.set i v).getD j 0 = if j = i then v else l.getD j 0 := by
  simp only [List.getD_eq_getElem?_getD, List.getElem?_set]
  by_cases h : j = i
  · subst h; simp [hi]
  · rw [if_neg (fun e => h e.symm), if_neg h]
theorem ext_getD {l m : List Int} (h : l.length = m.length) (e : ∀ i, i < l.length → l.getD i 0 = m.getD i 0) : l = m := by
  apply List.ext_getElem h
  intro i h1 h2
  have := e i h1
  simpa [List.getD_eq_getElem?_getD, List.getElem?_eq_getElem h1, List.getElem?_eq_getElem h2] using this
theorem bytS_getD (xs : List Int) (k : Nat) (hk : k ≤ 32) : ∀ j, j < k → (bytS xs k).getD j 0 = (xs.getD (j / 8) 0 / 2 ^ (8 * (j % 8))) % 256 := by
  induction k with
  | zero => intro j h; omega
  | succ k ih =>
    intro j hj
    unfold bytS
    rw [getD_setI _ _ _ _ (by rw [bytS_length]; omega)]
    by_cases h : j = k
    · rw [if_pos h, h]
    · rw [if_neg h]; exact ih (by omega) j (by omega)
theorem piece_byte (y q : Nat) (hq : q < 8) : y % P64 / 2 ^ (8 * q) % 256 = y / 2 ^ (8 * q) % 256 := by
  have h : P64 = 2 ^ (8 * q) * 2 ^ (64 - 8 * q) := by rw [← Nat.pow_add, show 8 * q + (64 - 8 * q) = 64 from by omega]; rfl
  rw [h, Nat.mod_mul_right_div_self]
  have hd : (256 : Nat) ∣ 2 ^ (64 - 8 * q) := ⟨2 ^ (56 - 8 * q), by rw [show 256 = 2 ^ 8 from rfl, ← Nat.pow_add]; congr 1; omega⟩
  exact Nat.mod_mod_of_dvd _ hd
theorem bytS_num (x : Nat) : bytS (num x) 32 = limbs 256 32 x := by
  refine ext_getD (by rw [bytS_length, limbs_length]) (fun j hj => ?_)
  rw [bytS_length] at hj
  rw [bytS_getD _ 32 (by omega) j hj, limbs_getD _ _ _ _ hj]
  unfold num
  rw [limbs_getD _ _ _ _ (by omega)]
  have e := piece_byte (x / P64 ^ (j / 8)) (j % 8) (by omega)
  have e2 : x / P64 ^ (j / 8) / 2 ^ (8 * (j % 8)) = x / 256 ^ j := by
    rw [Nat.div_div_eq_div_mul, p64_pow, p256_pow, ← Nat.pow_add, show 64 * (j / 8) + 8 * (j % 8) = 8 * j from by omega]
  rw [e2] at e
  rw [← e]
  simp
end Go.Proofs.Ytmkemagjedihmaa.FldA
