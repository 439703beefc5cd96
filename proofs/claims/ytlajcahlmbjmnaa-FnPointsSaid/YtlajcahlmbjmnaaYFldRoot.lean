/- The root that is even: what the program and the reference compute; no program in sight. -/
import Derived.Test.YtlajcahlmbjmnaaYFldW
namespace Go.Proofs.Ytlajcahlmbjmnaa.FldRoot
open Go.RowKit Go.Proofs.Ytlajcahlmbjmnaa.Arr Go.Proofs.Ytlajcahlmbjmnaa.Limb Go.Proofs.Ytlajcahlmbjmnaa.FldA Go.Proofs.Ytlajcahlmbjmnaa.FldB Go.Proofs.Ytlajcahlmbjmnaa.FldP Go.Proofs.Ytlajcahlmbjmnaa.FldW
set_option linter.unusedVariables false
def imN : Nat := 19681161376707505956807079304988542015446066515923890162744021073123829784752
def eR : Nat := 7237005577332262213973186563042994240829374041602535252466099000494570602494
theorem num_eR : num eR = [18446744073709551614, 18446744073709551615, 18446744073709551615, 1152921504606846975] := by decide
def rt0 (a : Nat) : Nat := a ^ eR % PP
def rt1 (a : Nat) : Nat := if rt0 a * rt0 a % PP = a then rt0 a else rt0 a * imN % PP
def rtOk (a : Nat) : Bool := decide (rt1 a * rt1 a % PP = a)
def rtV (a : Nat) : Nat := if rt1 a % 2 = 1 then (PP - rt1 a) % PP else rt1 a
theorem rt0_lt (a : Nat) : rt0 a < PP := Nat.mod_lt _ PP_pos
theorem rt1_lt (a : Nat) : rt1 a < PP := by
  unfold rt1
  split
  · exact rt0_lt a
  · exact Nat.mod_lt _ PP_pos
theorem rtV_lt (a : Nat) : rtV a < PP := by
  unfold rtV
  split
  · exact Nat.mod_lt _ PP_pos
  · exact rt1_lt a
theorem num_inj (x y : Nat) (hx : x < PP) (hy : y < PP) : decide (num x = num y) = decide (x = y) := by
  rw [decide_eq_decide]
  constructor
  · intro h
    have hv := num_val x
    rw [h, num_val y, b4, Nat.mod_eq_of_lt (Nat.lt_trans hx (by decide)), Nat.mod_eq_of_lt (Nat.lt_trans hy (by decide))] at hv
    omega
  · intro h; rw [h]
theorem same_str (x y : Nat) (hx : x < PP) (hy : y < PP) : decide (x = y) = ((strOfNums (limbs 256 32 x)).toList == (strOfNums (limbs 256 32 y)).toList) := by
  by_cases h : x = y
  · subst h; rw [decide_eq_true rfl, beq_self_eq_true]
  · rw [decide_eq_false h]
    symm
    rw [beq_eq_false_iff_ne]
    intro hs
    have e2 := str_inj (limbs_ok _ (by decide) _ _) (limbs_ok _ (by decide) _ _) hs
    have e3 := congrArg bval e2
    rw [bval_limbs x hx, bval_limbs y hy] at e3
    exact h e3
end Go.Proofs.Ytlajcahlmbjmnaa.FldRoot
