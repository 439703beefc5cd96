/- The bytes of a point of the curve are read back as that point; no program in sight. -/
import Derived.Test.YtlajcahlmbjmnaaYFldSqrt
import Derived.Test.YtlajcahlmbjmnaaYFldPt
import Derived.Test.YtlajcahlmbjmnaaYFldOps
namespace Go.Proofs.Ytlajcahlmbjmnaa.FldDec
open Go.RowKit Go.Proofs.Ytlajcahlmbjmnaa.Limb Go.Proofs.Ytlajcahlmbjmnaa.FldA Go.Proofs.Ytlajcahlmbjmnaa.FldB Go.Proofs.Ytlajcahlmbjmnaa.FldW Go.Proofs.Ytlajcahlmbjmnaa.FldP Go.Proofs.Ytlajcahlmbjmnaa.FldLaw Go.Proofs.Ytlajcahlmbjmnaa.FldRoot Go.Proofs.Ytlajcahlmbjmnaa.FldSqrt Go.Proofs.Ytlajcahlmbjmnaa.FldPt Go.Proofs.Ytlajcahlmbjmnaa.FldOps Go.Proofs.Ytlajcahlmbjmnaa.Edw
set_option linter.unusedVariables false
theorem PP_eq : FldB.PP = Prime.PP := rfl
theorem set_back (y : Nat) (v : Int) (h : (limbs 256 32 y).getD 31 0 = v) : (limbs 256 32 y).set 31 v = limbs 256 32 y := by
  rw [← h, List.getD_eq_getElem?_getD, List.getElem?_eq_getElem (by rw [limbs_length]; omega)]; simp
theorem getD31 (l : List Int) (v : Int) (h : 31 < l.length) : (l.set 31 v).getD 31 0 = v := by
  rw [List.getD_eq_getElem?_getD, List.getElem?_set_self h]; rfl
theorem lowB_enc (x y : Nat) (hy : y < PP) : lowB (encL x y) = limbs 256 32 y := by
  obtain ⟨h1, h2⟩ := top_lt y hy
  unfold lowB encL
  generalize y / 256 ^ 31 = q at *
  split
  · rw [getD31 _ _ (by rw [limbs_length]; omega), List.set_set]
    refine set_back y _ ?_
    rw [h1]; show ((q : Nat) : Int) = (((q : Nat) : Int) + 128) % 128; omega
  · refine set_back y _ ?_
    rw [h1]; omega
theorem sgB_enc (x y : Nat) (hy : y < PP) : sgB (encL x y) = decide (x % 2 = 1) := by
  obtain ⟨h1, h2⟩ := top_lt y hy
  unfold sgB encL
  generalize y / 256 ^ 31 = q at *
  by_cases h : x % 2 = 1
  · rw [if_pos h, decide_eq_true h, getD31 _ _ (by rw [limbs_length]; omega), h1]
    exact decide_eq_true (show (128 : Int) ≤ (q : Int) + 128 by omega)
  · rw [if_neg h, decide_eq_false h, h1]
    exact decide_eq_false (by omega)
theorem pYv_enc (x y : Nat) (hy : y < PP) : pYv (encL x y) = y := by
  unfold pYv
  rw [lowB_enc x y hy, bval_limbs y hy]
theorem cu_eq : cuN = EdP.dN := by decide +kernel
theorem p_facts (y : Nat) (hy : y < PP) : E (PP : Int) (pD y : Nat) ((EdP.dN : Int) * ((y : Int) * (y : Int)) + 1) ∧ E (PP : Int) (pN y : Nat) ((y : Int) * (y : Int) - 1) ∧ E (PP : Int) ((pD y : Nat) * (pI y : Nat) : Int) 1 := by
  have eQ : E (PP : Int) (pQ y : Nat) ((y : Int) * (y : Int)) := by rw [← Int.natCast_mul]; exact EdP.E_of_mod (p := PP) (Nat.mod_mod _ _)
  have eM : E (PP : Int) (pM y : Nat) ((EdP.dN : Int) * ((y : Int) * (y : Int))) := by
    have h : E (PP : Int) (pM y : Nat) ((cuN * pQ y : Nat) : Int) := EdP.E_of_mod (p := PP) (Nat.mod_mod _ _)
    rw [Int.natCast_mul, cu_eq] at h
    exact h.trans ((E.refl _ _).mul eQ)
  have eD : E (PP : Int) (pD y : Nat) ((EdP.dN : Int) * ((y : Int) * (y : Int)) + 1) := by
    have h : E (PP : Int) (pD y : Nat) ((pM y + 1 : Nat) : Int) := EdP.E_of_mod (p := PP) (Nat.mod_mod _ _)
    rw [Int.natCast_add] at h
    exact h.trans (eM.add (E.refl _ _))
  have eN : E (PP : Int) (pN y : Nat) ((y : Int) * (y : Int) - 1) := by
    have h : E (PP : Int) (pN y : Nat) ((pQ y + PP - 1 : Nat) : Int) := EdP.E_of_mod (p := PP) (Nat.mod_mod _ _)
    have hP := PP_pos
    have e : ((pQ y + PP - 1 : Nat) : Int) = ((pQ y : Nat) : Int) - 1 + (PP : Int) * 1 := by omega
    rw [e] at h
    exact (h.trans ⟨1, by omega⟩).trans (eQ.sub (E.refl _ _))
  have hnd : ¬ (PP : Int) ∣ (EdP.dN : Int) * ((y : Int) * (y : Int)) + 1 := by
    intro h
    have hi := EdP.cu.c.im
    have h1 : (PP : Int) ∣ (EdP.iN : Int) * (EdP.iN : Int) - (EdP.dN : Int) * ((y : Int) * (y : Int)) := by
      have h2 : E (PP : Int) ((EdP.iN : Int) * (EdP.iN : Int) + 1) 0 := by rw [E, Int.sub_zero]; exact hi
      have h3 : E (PP : Int) ((EdP.dN : Int) * ((y : Int) * (y : Int)) + 1) 0 := by rw [E, Int.sub_zero]; exact h
      have h4 := h2.sub h3
      rw [E] at h4
      have e : (EdP.iN : Int) * (EdP.iN : Int) + 1 - ((EdP.dN : Int) * ((y : Int) * (y : Int)) + 1) - (0 - 0) = (EdP.iN : Int) * (EdP.iN : Int) - (EdP.dN : Int) * ((y : Int) * (y : Int)) := by omega
      rw [e] at h4; exact h4
    have h5 : (PP : Int) ∣ (y : Int) := EdP.cu.c.ns _ _ h1
    have h6 : (PP : Int) ∣ (EdP.dN : Int) * ((y : Int) * (y : Int)) := Int.dvd_mul_of_dvd_right (Int.dvd_mul_of_dvd_right h5)
    exact EdP.cu.c.one (by
      have := Int.dvd_sub h h6
      rwa [show (EdP.dN : Int) * ((y : Int) * (y : Int)) + 1 - (EdP.dN : Int) * ((y : Int) * (y : Int)) = 1 by omega] at this)
  have hD0 : pD y ≠ 0 := by
    intro h0
    rw [h0] at eD
    exact hnd (eD.dvd ⟨0, by simp⟩)
  have eI : E (PP : Int) ((pD y : Nat) * (pI y : Nat) : Int) 1 := by
    have h := inverse (pD y) hD0 (pD_lt y)
    rw [← Int.natCast_mul]
    exact EdP.E_of_mod (p := PP) (b := 1) (by rw [show pD y * pI y % PP = 1 from h]; decide +kernel)
  exact ⟨eD, eN, eI⟩
theorem eXX (y : Nat) : E (PP : Int) (pXX y : Nat) ((pN y : Nat) * (pI y : Nat) : Int) := by rw [← Int.natCast_mul]; exact EdP.E_of_mod (p := PP) (Nat.mod_mod _ _)
theorem pXX_on (x y : Nat) (hx : x < PP) (hy : y < PP) (ho : On (PP : Int) (EdP.dN : Int) (x : Int) (y : Int)) : pXX y = x * x % PP := by
  obtain ⟨eD, eN, eI⟩ := p_facts y hy
  have eX := eXX y
  have eO : E (PP : Int) ((y : Int) * (y : Int) - 1) ((x : Int) * (x : Int) * ((EdP.dN : Int) * ((y : Int) * (y : Int)) + 1)) := by
    have h : (PP : Int) ∣ (y : Int)*(y : Int) - (x : Int)*(x : Int) - 1 - (EdP.dN : Int)*((x : Int)*(x : Int))*((y : Int)*(y : Int)) := ho
    have e : (y : Int) * (y : Int) - 1 - ((x : Int) * (x : Int) * ((EdP.dN : Int) * ((y : Int) * (y : Int)) + 1)) = (y : Int)*(y : Int) - (x : Int)*(x : Int) - 1 - (EdP.dN : Int)*((x : Int)*(x : Int))*((y : Int)*(y : Int)) := by grind
    rw [E, e]; exact h
  have hE : E (PP : Int) (pXX y : Nat) ((x : Int) * (x : Int)) := by
    refine eX.trans (((eN.trans (eO.trans ((E.refl _ _).mul eD.symm))).mul (E.refl _ _)).trans ?_)
    refine (E.of (show (x : Int) * (x : Int) * ((pD y : Nat) : Int) * ((pI y : Nat) : Int) = (x : Int) * (x : Int) * (((pD y : Nat) : Int) * ((pI y : Nat) : Int)) by grind)).trans (((E.refl _ _).mul eI).trans (E.of (Int.mul_one _)))
  have hE2 : E (PP : Int) (pXX y : Nat) ((x * x % PP : Nat) : Int) := hE.trans (by
    rw [← Int.natCast_mul]; exact EdP.E_of_mod (p := PP) (Nat.mod_mod _ _).symm)
  have h1 := pXX_lt y
  have h2 := Nat.mod_lt (x * x) PP_pos
  have h3 := E.can hE2 ⟨Int.natCast_nonneg _, Int.ofNat_lt.2 h1⟩ ⟨Int.natCast_nonneg _, Int.ofNat_lt.2 h2⟩
  exact Int.natCast_inj.1 h3
theorem rtX_on (x y : Nat) (hx : x < PP) (hy : y < PP) (ho : On (PP : Int) (EdP.dN : Int) (x : Int) (y : Int)) : rtX y = if x % 2 = 1 then PP - x else x := by
  have hxx := pXX_on x y hx hy ho
  unfold rtX
  rw [hxx, rtOk_sq x hx, if_pos rfl]
  have h1 := rtV_even (x * x % PP)
  have h2 := rtV_lt (x * x % PP)
  have h3 := rtV_cases x hx
  have hodd := PP_odd
  generalize rtV (x * x % PP) = r at *
  rw [Nat.zero_add] at h3
  by_cases h0 : x = 0
  · subst h0
    rw [if_neg (by decide)]
    rcases h3 with h | h
    · exact h
    · rw [h]; exact Nat.mod_self _
  · have h4 : (PP - x) % PP = PP - x := Nat.mod_eq_of_lt (by omega)
    rw [h4] at h3
    by_cases hp : x % 2 = 1
    · rw [if_pos hp]
      rcases h3 with h | h
      · omega
      · exact h
    · rw [if_neg hp]
      rcases h3 with h | h
      · exact h
      · omega
theorem enc_ok (x y : Nat) (hx : x < PP) (hy : y < PP) (ho : On (PP : Int) (EdP.dN : Int) (x : Int) (y : Int)) : okP (encL x y) = true := by
  have hy2 := pYv_enc x y hy
  refine okP_true ?_ ?_ ?_
  · rw [lowB_enc x y hy]
    unfold isEl
    rw [limbs_length, bval_limbs y hy, decide_eq_true rfl, decide_eq_true hy]; rfl
  · rw [hy2, pXX_on x y hx hy ho]; exact rtOk_sq x hx
  · rintro ⟨h1, h2⟩
    rw [hy2, rtX_on x y hx hy ho] at h1
    rw [sgB_enc x y hy] at h2
    have h3 : x % 2 = 1 := of_decide_eq_true h2
    rw [if_pos h3] at h1
    omega
theorem enc_x (x y : Nat) (hx : x < PP) (hy : y < PP) (ho : On (PP : Int) (EdP.dN : Int) (x : Int) (y : Int)) : pXv (encL x y) = x := by
  have hy2 := pYv_enc x y hy
  have hr := rtX_on x y hx hy ho
  by_cases h : x % 2 = 1
  · rw [pXv_sg (by rw [sgB_enc x y hy]; exact decide_eq_true h), hy2, hr, if_pos h]
    have : PP - (PP - x) = x := by omega
    rw [this, Nat.mod_eq_of_lt hx]
  · rw [pXv_no (by rw [sgB_enc x y hy]; exact decide_eq_false h), hy2, hr, if_neg h]
theorem rt_sq (a : Nat) (h : rtOk a = true) : rtV a * rtV a % PP = a := by
  rw [rtV_sq]; exact of_decide_eq_true h
theorem neg_sq (r : Nat) (hr : r < PP) : E (PP : Int) (((PP - r) % PP : Nat) * ((PP - r) % PP : Nat) : Int) ((r : Int) * (r : Int)) := by
  have h : E (PP : Int) (((PP - r) % PP : Nat) : Int) (-(r : Int)) := (EdP.E_of_mod (p := PP) (b := PP - r) (Nat.mod_mod _ _)).trans ⟨1, by omega⟩
  exact (h.mul h).trans (E.of (by grind))
theorem okP_on (l : List Int) (h : okP l = true) : pXv l < PP ∧ pYv l < PP ∧ On (PP : Int) (EdP.dN : Int) (pXv l : Int) (pYv l : Int) := by
  have hl : isEl (lowB l) = true := by
    cases hh : isEl (lowB l)
    · rw [okP_el hh] at h; exact absurd h (by decide)
    · rfl
  have hr : rtOk (pXX (pYv l)) = true := by
    cases hh : rtOk (pXX (pYv l))
    · rw [okP_rt hh] at h; exact absurd h (by decide)
    · rfl
  have hy : pYv l < PP := by
    unfold isEl at hl
    rw [Bool.and_eq_true] at hl
    exact of_decide_eq_true hl.2
  refine ⟨pXv_lt l, hy, ?_⟩
  have hx2 : E (PP : Int) ((pXv l : Nat) * (pXv l : Nat) : Int) ((pXX (pYv l) : Nat) : Int) := by
    have h1 : E (PP : Int) ((rtX (pYv l) : Nat) * (rtX (pYv l) : Nat) : Int) ((pXX (pYv l) : Nat) : Int) := by
      have h2 : rtX (pYv l) = rtV (pXX (pYv l)) := by unfold rtX; rw [if_pos hr]
      rw [h2, ← Int.natCast_mul]
      exact EdP.E_of_mod (p := PP) (by rw [rt_sq _ hr, Nat.mod_eq_of_lt (pXX_lt _)])
    cases hs : sgB l
    · rw [pXv_no hs]; exact h1
    · rw [pXv_sg hs]; exact (neg_sq _ (rtX_lt _)).trans h1
  generalize pXv l = x at *
  generalize pYv l = y at *
  obtain ⟨eD, eN, eI⟩ := p_facts y hy
  have eX := eXX y
  have e1 : E (PP : Int) ((x : Int) * (x : Int) * ((EdP.dN : Int) * ((y : Int) * (y : Int)) + 1)) ((y : Int) * (y : Int) - 1) := by
    refine ((hx2.trans eX).mul eD.symm).trans ?_
    refine (E.of (show ((pN y : Nat) : Int) * ((pI y : Nat) : Int) * ((pD y : Nat) : Int) = ((pN y : Nat) : Int) * (((pD y : Nat) : Int) * ((pI y : Nat) : Int)) by grind)).trans ?_
    exact ((E.refl _ _).mul eI).trans ((E.of (Int.mul_one _)).trans eN)
  have e2 := e1.symm
  rw [E] at e2
  have e : (y : Int) * (y : Int) - 1 - ((x : Int) * (x : Int) * ((EdP.dN : Int) * ((y : Int) * (y : Int)) + 1)) = (y : Int)*(y : Int) - (x : Int)*(x : Int) - 1 - (EdP.dN : Int)*((x : Int)*(x : Int))*((y : Int)*(y : Int)) := by grind
  rw [e] at e2
  exact e2
end Go.Proofs.Ytlajcahlmbjmnaa.FldDec
