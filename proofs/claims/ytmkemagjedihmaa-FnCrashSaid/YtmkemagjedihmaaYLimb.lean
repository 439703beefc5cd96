/- Numbers in pieces, the lowest first: what a row of pieces is worth, and which pieces a number has; no program in sight. -/
import Derived.RowKit
namespace Go.Proofs.Ytmkemagjedihmaa.Limb
set_option linter.unusedVariables false

def limbs (B : Nat) : Nat → Nat → List Int
  | 0, _ => []
  | n + 1, x => ((x % B : Nat) : Int) :: limbs B n (x / B)
def lval (B : Nat) : List Int → Int
  | [] => 0
  | x :: xs => x + B * lval B xs
def Ok (B : Nat) (xs : List Int) : Prop := ∀ x ∈ xs, 0 ≤ x ∧ x < (B : Int)

theorem limbs_length (B n x : Nat) : (limbs B n x).length = n := by
  induction n generalizing x with
  | zero => rfl
  | succ n ih => simp [limbs, ih]
theorem limbs_ok (B : Nat) (hB : 0 < B) (n x : Nat) : Ok B (limbs B n x) := by
  induction n generalizing x with
  | zero => intro y hy; simp [limbs] at hy
  | succ n ih =>
    intro y hy
    simp only [limbs, List.mem_cons] at hy
    rcases hy with rfl | hy
    · have := Nat.mod_lt x hB; omega
    · exact ih _ y hy
theorem lval_nonneg (B : Nat) (xs : List Int) (h : Ok B xs) : 0 ≤ lval B xs := by
  induction xs with
  | nil => simp [lval]
  | cons x xs ih =>
    have h1 := h x (by simp)
    have h2 := ih (fun y hy => h y (by simp [hy]))
    have : 0 ≤ (B : Int) * lval B xs := Int.mul_nonneg (by omega) h2
    simp only [lval]; omega
theorem lval_limbs (B : Nat) (hB : 0 < B) (n x : Nat) : lval B (limbs B n x) = ((x % B ^ n : Nat) : Int) := by
  induction n generalizing x with
  | zero => simp [limbs, lval, Nat.mod_one]
  | succ n ih =>
    simp only [limbs, lval, ih]
    rw [Nat.pow_succ', Nat.mod_mul]
    simp
theorem limbs_lval (B : Nat) (hB : 0 < B) (xs : List Int) (h : Ok B xs) : limbs B xs.length (lval B xs).toNat = xs := by
  induction xs with
  | nil => rfl
  | cons x xs ih =>
    have h1 := h x (by simp)
    have h2 : Ok B xs := fun y hy => h y (by simp [hy])
    have h3 := lval_nonneg B xs h2
    obtain ⟨X, rfl⟩ := Int.eq_ofNat_of_zero_le h1.1
    obtain ⟨V, hV⟩ := Int.eq_ofNat_of_zero_le h3
    have hX : X < B := by omega
    have e : (lval B ((X : Int) :: xs)).toNat = X + B * V := by
      simp only [lval, hV]; rw [show (X : Int) + (B : Int) * (V : Int) = ((X + B * V : Nat) : Int) from by simp, Int.toNat_natCast]
    have ih' := ih h2
    rw [hV, Int.toNat_natCast] at ih'
    simp only [List.length_cons, limbs]
    rw [e, Nat.add_mul_mod_self_left, Nat.mod_eq_of_lt hX, Nat.add_mul_div_left _ _ hB, Nat.div_eq_of_lt hX, Nat.zero_add, ih']
theorem limbs_mod (B : Nat) (hB : 0 < B) (n x : Nat) : limbs B n (x % B ^ n) = limbs B n x := by
  have h := limbs_lval B hB (limbs B n x) (limbs_ok B hB n x)
  rw [limbs_length, lval_limbs B hB, Int.toNat_natCast] at h
  exact h
/- pieces are known by what they are worth -/
theorem eq_limbs (B : Nat) (hB : 0 < B) (xs : List Int) (h : Ok B xs) (n x : Nat) (hl : xs.length = n) (hv : lval B xs = ((x % B ^ n : Nat) : Int)) : xs = limbs B n x := by
  have := limbs_lval B hB xs h
  rw [hv, Int.toNat_natCast, hl, limbs_mod B hB] at this
  exact this.symm
theorem limbs_congr (B : Nat) (hB : 0 < B) (n x y : Nat) (h : x % B ^ n = y % B ^ n) : limbs B n x = limbs B n y := by
  rw [← limbs_mod B hB n x, h, limbs_mod B hB]

theorem getD_range {B : Nat} {xs : List Int} (h : Ok B xs) (i : Nat) (hi : i < xs.length) : 0 ≤ xs.getD i 0 ∧ xs.getD i 0 < (B : Int) := by
  rw [List.getD_eq_getElem?_getD, List.getElem?_eq_getElem hi]
  exact h _ (List.getElem_mem hi)
theorem ok_set {B : Nat} {xs : List Int} (h : Ok B xs) (i : Nat) (v : Int) (h0 : 0 ≤ v) (h1 : v < (B : Int)) : Ok B (xs.set i v) := by
  intro y hy
  rcases List.mem_or_eq_of_mem_set hy with hy | rfl
  · exact h y hy
  · exact ⟨h0, h1⟩
theorem lval_append (B : Nat) (xs ys : List Int) : lval B (xs ++ ys) = lval B xs + (B : Int) ^ xs.length * lval B ys := by
  induction xs with
  | nil => simp [lval]
  | cons x xs ih =>
    simp only [List.cons_append, lval, ih, List.length_cons, Int.pow_succ]
    grind
theorem lval_set (B : Nat) (xs : List Int) (i : Nat) (v : Int) (hi : i < xs.length) : lval B (xs.set i v) = lval B xs + (B : Int) ^ i * (v - xs.getD i 0) := by
  induction xs generalizing i with
  | nil => simp at hi
  | cons x xs ih =>
    cases i with
    | zero => simp [lval]; omega
    | succ i =>
      have := ih i (by simpa using hi)
      simp only [List.set_cons_succ, lval, this, List.getD_cons_succ, Int.pow_succ]
      grind
end Go.Proofs.Ytmkemagjedihmaa.Limb
