/- The numbers of points as the program and the reference make them; no program in sight. -/
import Derived.Test.YtlajcahlmbjmnaaYFldPt
import Derived.Test.YtlajcahlmbjmnaaYMathAll
import Derived.Test.YtlajcahlmbjmnaaYFldS
set_option linter.unusedVariables false
namespace Go.Proofs.Ytlajcahlmbjmnaa.FldOps
open Go Go.RowKit Go.Proofs.Ytlajcahlmbjmnaa.Limb Go.Proofs.Ytlajcahlmbjmnaa.FldA Go.Proofs.Ytlajcahlmbjmnaa.FldB Go.Proofs.Ytlajcahlmbjmnaa.FldP Go.Proofs.Ytlajcahlmbjmnaa.FldPt Go.Proofs.Ytlajcahlmbjmnaa.Arr Go.Proofs.Ytlajcahlmbjmnaa.EdP
def p4 (Q : Q4) : List Int := ptL Q.x Q.y Q.z Q.t
theorem p4_length (Q : Q4) : (p4 Q).length = 16 := ptL_length _ _ _ _
theorem p4_x (Q : Q4) : ((p4 Q).drop 0).take (num Q.x).length = num Q.x := by
  rw [p4, List.drop_zero, ptL, List.take_left']; rfl
theorem p4_y (Q : Q4) : ((p4 Q).drop 4).take (num Q.y).length = num Q.y := by
  rw [p4, ptL, List.drop_left' (num_length Q.x), List.take_left']; rfl
theorem p4_z (Q : Q4) : ((p4 Q).drop 8).take (num Q.z).length = num Q.z := by
  rw [p4, ptL, ← List.append_assoc, List.drop_left' (by simp [num_length]), List.take_left']; rfl
theorem p4_t (Q : Q4) : ((p4 Q).drop 12).take (num Q.t).length = num Q.t := by
  rw [p4, ptL, ← List.append_assoc, ← List.append_assoc, List.drop_left' (by simp [num_length]), List.take_of_length_le (Nat.le_refl _)]
def Lt4 (Q : Q4) : Prop := Q.x < FldB.PP ∧ Q.y < FldB.PP ∧ Q.z < FldB.PP ∧ Q.t < FldB.PP
theorem lt_fm (a b : Nat) : fm a b < FldB.PP := fm_lt a b
theorem lt_fa (a b : Nat) : fa a b < FldB.PP := fa_lt a b
theorem lt_fs (a b : Nat) : fs a b < FldB.PP := fs_lt a b
theorem add_lt (P Q : Q4) : Lt4 (addI P Q) := ⟨lt_fm _ _, lt_fm _ _, lt_fm _ _, lt_fm _ _⟩
theorem zero_lt : Lt4 zeroI := ⟨by decide, by decide, by decide, by decide⟩
theorem tm_lt (k : Nat) (P : Q4) (i : Nat) : Lt4 (tmI k P i) := by
  cases i with
  | zero => exact zero_lt
  | succ i =>
    show Lt4 (if k / 2 ^ (255 - i) % 2 = 1 then _ else _)
    split
    · exact add_lt _ _
    · exact add_lt _ _
def encL (x y : Nat) : List Int := if x % 2 = 1 then (limbs 256 32 y).set 31 ((limbs 256 32 y).getD 31 0 + 128) else limbs 256 32 y
def ivv (z : Nat) : Nat := z ^ (FldB.PP - 2) % FldB.PP
def affX (Q : Q4) : Nat := Q.x * ivv Q.z % FldB.PP
def affY (Q : Q4) : Nat := Q.y * ivv Q.z % FldB.PP
def enc4 (Q : Q4) : List Int := encL (affX Q) (affY Q)
theorem ivv_lt (z : Nat) : ivv z < FldB.PP := Nat.mod_lt _ PP_pos
theorem affY_lt (Q : Q4) : affY Q < FldB.PP := Nat.mod_lt _ PP_pos
def q4 (l : List Int) : Q4 := ⟨pXv l, pYv l, 1, pXv l * pYv l % FldB.PP⟩
theorem top_lt (y : Nat) (hy : y < FldB.PP) : (limbs 256 32 y).getD 31 0 = ((y / 256 ^ 31 : Nat) : Int) ∧ y / 256 ^ 31 < 128 := by
  have h1 := FldA.limbs_getD 256 32 y 31 (by omega)
  have h2 : y < 128 * 256 ^ 31 := Nat.lt_trans hy (by decide +kernel)
  have h3 : y / 256 ^ 31 < 128 := Nat.div_lt_of_lt_mul (by rw [Nat.mul_comm]; exact h2)
  exact ⟨by rw [h1, Nat.mod_eq_of_lt (by omega)], h3⟩
theorem or_128 (y : Nat) (hy : y < FldB.PP) : bits .or .u8 ((limbs 256 32 y).getD 31 0) 128 = (limbs 256 32 y).getD 31 0 + 128 := by
  obtain ⟨h1, h2⟩ := top_lt y hy
  rw [h1]
  have h : ∀ n : Nat, n < 128 → bits .or .u8 (n : Int) 128 = (n : Int) + 128 := by decide +kernel
  exact h _ h2
theorem okP_y (l : List Int) (h : okP l = true) : pYv l < FldB.PP := by
  have hl : isEl (lowB l) = true := by
    cases hh : isEl (lowB l)
    · rw [okP_el hh] at h; exact absurd h (by decide)
    · rfl
  unfold isEl at hl
  rw [Bool.and_eq_true] at hl
  exact of_decide_eq_true hl.2
theorem okP_32 (l : List Int) (h : okP l = true) : l.length = 32 := by
  rcases Nat.decEq l.length 32 with e | e
  · rw [okP_len e] at h; exact absurd h (by decide)
  · exact e
theorem q4_lt (l : List Int) (h : okP l = true) : Lt4 (q4 l) := ⟨pXv_lt l, okP_y l h, show 1 < FldB.PP by decide, Nat.mod_lt _ PP_pos⟩
theorem ptV_q4 (l : List Int) (h : okP l = true) : ptV l = p4 (q4 l) := ptV_yes h _ rfl
def isSc (l : List Int) : Bool := decide (l.length = 32) && decide (bval l < FldS.orderN)
end Go.Proofs.Ytlajcahlmbjmnaa.FldOps
