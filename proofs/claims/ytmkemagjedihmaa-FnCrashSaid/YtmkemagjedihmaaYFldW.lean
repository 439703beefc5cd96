/- Plain facts on a number of 512 bits made one below the prime; no program in sight. -/
import Derived.Test.YtmkemagjedihmaaYFldP
namespace Go.Proofs.Ytmkemagjedihmaa.FldW
open Go.RowKit Go.Proofs.Ytmkemagjedihmaa.Arr Go.Proofs.Ytmkemagjedihmaa.Limb Go.Proofs.Ytmkemagjedihmaa.FldA Go.Proofs.Ytmkemagjedihmaa.FldB Go.Proofs.Ytmkemagjedihmaa.FldS Go.Proofs.Ytmkemagjedihmaa.FldP Go.Proofs.YtmkemagjedihmaaW.PrintWords
set_option linter.unusedVariables false

theorem b4 : P64 ^ 4 = BB := by decide
/-- the low half, the high half and what stands above of 38 times it, and the three sums -/
theorem red_ranges (W : Nat) (hW : W < BB * BB) : W / BB < BB ∧ W / BB * 38 / BB < 38 ∧ (W % BB + W / BB * 38 % BB) / BB < 2 := by
  have h1 : W / BB < BB := Nat.div_lt_of_lt_mul hW
  have h2 := Nat.mod_lt W (show 0 < BB by decide)
  have h3 := Nat.mod_lt (W / BB * 38) (show 0 < BB by decide)
  generalize W / BB = H at *
  generalize W % BB = L at *
  refine ⟨h1, ?_, ?_⟩
  · rw [Nat.div_lt_iff_lt_mul (show 0 < BB by decide), Nat.mul_comm]
    have : (0 : Nat) < 38 := by decide
    exact (Nat.mul_lt_mul_left this).2 h1
  · rw [Nat.div_lt_iff_lt_mul (show 0 < BB by decide)]
    omega
theorem red_sum (L H q c1 c2 l1 l2 p m : Nat) (hp : H * 38 = p + BB * q) (h1 : L + p = l1 + BB * c1) (hm : m = (q + c1) * 38) (h2 : l1 + m = l2 + BB * c2) (hl1 : l1 < BB) (hl2 : l2 < BB) (hmm : m ≤ 2000) : l2 + 38 * c2 < BB ∧ (l2 + 38 * c2) % PP = (L + BB * H) % PP := by
  rw [BB_eq] at *
  rw [PP_eq]
  constructor
  · omega
  · omega
theorem wid_top (x : Nat) (hx : x / BB < 38) : (wid x).getD 4 0 = ((x / BB : Nat) : Int) := by
  unfold wid
  rw [limbs_getD _ _ _ _ (by omega), b4, Nat.mod_eq_of_lt (by rw [P64_eq]; omega)]
theorem num_small (n : Nat) (hn : n < 18446744073709551616) : [(n : Int), 0, 0, 0] = num n := by
  unfold num
  simp only [limbs]
  rw [P64_eq, Nat.mod_eq_of_lt hn, Nat.div_eq_of_lt hn]
  simp
theorem num_zero (x : Nat) (hx : x < BB) : decide (x = 0) = decide (num x = [0, 0, 0, 0]) := by
  rw [decide_eq_decide]
  constructor
  · intro h; subst h; decide
  · intro h
    have hv := num_val x
    rw [h, b4, Nat.mod_eq_of_lt hx] at hv
    simp [lval] at hv
    omega
/-- bytes of an element -/
def okE (l : List Int) : Bool := okB l && isEl l
theorem okE_facts {l : List Int} (h : okE l = true) : okB l = true ∧ Ok 256 l ∧ l.length = 32 ∧ bval l < PP ∧ isEl l = true := by
  unfold okE at h
  rw [Bool.and_eq_true] at h
  have h2 := h.2
  unfold isEl at h2
  rw [Bool.and_eq_true, decide_eq_true_iff, decide_eq_true_iff] at h2
  exact ⟨h.1, okB_ok l h.1, h2.1, h2.2, h.2⟩
theorem okE_limbs (x : Nat) (hx : x < PP) : okE (limbs 256 32 x) = true := by
  have ho : okB (limbs 256 32 x) = true := by
    rw [okB, List.all_eq_true]
    intro y hy
    have := limbs_ok 256 (by decide) 32 x y hy
    rw [decide_eq_true this.1, decide_eq_true (show y < 256 from this.2)]; rfl
  have hv : bval (limbs 256 32 x) = x := by
    unfold bval
    rw [lval_limbs 256 (by decide), Int.toNat_natCast, Nat.mod_eq_of_lt (Nat.lt_trans hx (by decide))]
  unfold okE isEl
  rw [ho, hv, limbs_length, decide_eq_true hx]; rfl
theorem bval_limbs (x : Nat) (hx : x < PP) : bval (limbs 256 32 x) = x := by
  unfold bval
  rw [lval_limbs 256 (by decide), Int.toNat_natCast, Nat.mod_eq_of_lt (Nat.lt_trans hx (by decide))]
end Go.Proofs.Ytmkemagjedihmaa.FldW
