import Derived.Test.YtlajcahlmbjmnaaYFldRoot2
set_option linter.unusedVariables false
set_option linter.unusedSimpArgs false
namespace Go.Proofs.Ytlajcahlmbjmnaa.FldPt
open Go Go.RowKit Go.Proofs.Ytlajcahlmbjmnaa.Limb Go.Proofs.Ytlajcahlmbjmnaa.FldA Go.Proofs.Ytlajcahlmbjmnaa.FldB Go.Proofs.Ytlajcahlmbjmnaa.FldP Go.Proofs.Ytlajcahlmbjmnaa.FldRoot Go.Proofs.Ytlajcahlmbjmnaa.Arr
def lowB (l : List Int) : List Int := l.set 31 (l.getD 31 0 % 128)
def sgB (l : List Int) : Bool := decide (128 ≤ l.getD 31 0)
def pYv (l : List Int) : Nat := bval (lowB l)
def pQ (y : Nat) : Nat := y * y % PP
def pM (y : Nat) : Nat := cuN * pQ y % PP
def pD (y : Nat) : Nat := (pM y + 1) % PP
def pN (y : Nat) : Nat := (pQ y + PP - 1) % PP
def pI (y : Nat) : Nat := pD y ^ (PP - 2) % PP
def pXX (y : Nat) : Nat := pN y * pI y % PP
def rtX (y : Nat) : Nat := if rtOk (pXX y) = true then rtV (pXX y) else 0
def okP (l : List Int) : Bool := isEl (lowB l) && (rtOk (pXX (pYv l)) && !(decide (rtX (pYv l) = 0) && sgB l))
def pXv (l : List Int) : Nat := if sgB l = true then (PP - rtX (pYv l)) % PP else rtX (pYv l)
def ptL (x y z t : Nat) : List Int := num x ++ (num y ++ (num z ++ num t))
theorem ptL_length (x y z t : Nat) : (ptL x y z t).length = 16 := by simp [ptL, num_length]
def zL : List Int := [0, 0, 0, 0, 0, 0, 0, 0, 0, 0, 0, 0, 0, 0, 0, 0]
def ptV (l : List Int) : List Int := if okP l = true then ptL (pXv l) (pYv l) 1 (pXv l * pYv l % PP) else zL
theorem lowB_length (l : List Int) : (lowB l).length = l.length := by simp [lowB]
theorem rtX_lt (y : Nat) : rtX y < PP := by
  unfold rtX; split
  · exact rtV_lt _
  · exact PP_pos
theorem pXv_lt (l : List Int) : pXv l < PP := by
  unfold pXv; split
  · exact Nat.mod_lt _ PP_pos
  · exact rtX_lt _
theorem pQ_lt (y : Nat) : pQ y < PP := Nat.mod_lt _ PP_pos
theorem pM_lt (y : Nat) : pM y < PP := Nat.mod_lt _ PP_pos
theorem pD_lt (y : Nat) : pD y < PP := Nat.mod_lt _ PP_pos
theorem pN_lt (y : Nat) : pN y < PP := Nat.mod_lt _ PP_pos
theorem pI_lt (y : Nat) : pI y < PP := Nat.mod_lt _ PP_pos
theorem pXX_lt (y : Nat) : pXX y < PP := Nat.mod_lt _ PP_pos
theorem okP_len {l : List Int} (h : l.length ≠ 32) : okP l = false := by
  unfold okP isEl
  rw [lowB_length, decide_eq_false h, Bool.false_and, Bool.false_and]
theorem okP_el {l : List Int} (h : isEl (lowB l) = false) : okP l = false := by unfold okP; rw [h, Bool.false_and]
theorem okP_rt {l : List Int} (h : rtOk (pXX (pYv l)) = false) : okP l = false := by unfold okP; rw [h, Bool.false_and, Bool.and_false]
theorem okP_zero {l : List Int} (h : rtX (pYv l) = 0) (hs : sgB l = true) : okP l = false := by unfold okP; rw [h, hs, decide_eq_true rfl, Bool.and_self, Bool.not_true, Bool.and_false, Bool.and_false]
theorem okP_true {l : List Int} (h : isEl (lowB l) = true) (hr : rtOk (pXX (pYv l)) = true) (hz : ¬ (rtX (pYv l) = 0 ∧ sgB l = true)) : okP l = true := by
  unfold okP; rw [h, hr, Bool.true_and, Bool.true_and]
  cases hs : sgB l
  · rw [Bool.and_false, Bool.not_false]
  · rw [decide_eq_false (fun e => hz ⟨e, hs⟩), Bool.false_and, Bool.not_false]
theorem ptV_no {l : List Int} (h : okP l = false) : ptV l = zL := by unfold ptV; rw [h]; exact if_neg (by decide)
theorem ptV_yes {l : List Int} (h : okP l = true) (x : Nat) (hx : pXv l = x) : ptV l = ptL x (pYv l) 1 (x * pYv l % PP) := by unfold ptV; rw [h, hx]; exact if_pos rfl
theorem pXv_sg {l : List Int} (h : sgB l = true) : pXv l = (PP - rtX (pYv l)) % PP := by unfold pXv; rw [h]; exact if_pos rfl
theorem pXv_no {l : List Int} (h : sgB l = false) : pXv l = rtX (pYv l) := by unfold pXv; rw [h]; exact if_neg (by decide)
theorem lowB_ok {l : List Int} (h : Ok 256 l) : Ok 256 (lowB l) := by
  intro x hx
  rcases List.mem_or_eq_of_mem_set hx with h1 | h1
  · exact h x h1
  · subst h1
    exact ⟨Int.emod_nonneg _ (by decide), Int.lt_trans (Int.emod_lt_of_pos _ (by decide)) (by decide)⟩
theorem and_not (b : Int) (h0 : 0 ≤ b) (h1 : b < 256) : bits .andNot .u8 b 128 = b % 128 := by
  have h : ∀ n : Nat, n < 256 → bits .andNot .u8 (n : Int) 128 = (n : Int) % 128 := by decide +kernel
  have := h b.toNat (by omega)
  rwa [Int.toNat_of_nonneg h0] at this
end Go.Proofs.Ytlajcahlmbjmnaa.FldPt
