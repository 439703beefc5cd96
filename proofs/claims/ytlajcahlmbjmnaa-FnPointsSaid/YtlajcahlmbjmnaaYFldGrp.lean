/- Points by their bytes: what sums and multiples of them are; no program in sight. -/
import Derived.Test.YtlajcahlmbjmnaaYFldDec
namespace Go.Proofs.Ytlajcahlmbjmnaa.FldGrp
open Go.RowKit Go.Proofs.Ytlajcahlmbjmnaa.Limb Go.Proofs.Ytlajcahlmbjmnaa.FldA Go.Proofs.Ytlajcahlmbjmnaa.FldB Go.Proofs.Ytlajcahlmbjmnaa.FldW Go.Proofs.Ytlajcahlmbjmnaa.FldP Go.Proofs.Ytlajcahlmbjmnaa.FldLaw Go.Proofs.Ytlajcahlmbjmnaa.FldPt Go.Proofs.Ytlajcahlmbjmnaa.FldOps Go.Proofs.Ytlajcahlmbjmnaa.Edw Go.Proofs.Ytlajcahlmbjmnaa.EdP Go.Proofs.Ytlajcahlmbjmnaa.FldDec
set_option linter.unusedVariables false
def ptOf (l : List Int) (h : okP l = true) : PtP where
  x := pXv l
  y := pYv l
  hx := ⟨Int.natCast_nonneg _, Int.ofNat_lt.2 (okP_on l h).1⟩
  hy := ⟨Int.natCast_nonneg _, Int.ofNat_lt.2 (okP_on l h).2.1⟩
  on := (okP_on l h).2.2
def encP (P : PtP) : List Int := encL P.x.toNat P.y.toNat
theorem xN (P : PtP) : P.x.toNat < FldB.PP ∧ ((P.x.toNat : Nat) : Int) = P.x := by
  have h := P.hx
  have e : ((P.x.toNat : Nat) : Int) = P.x := Int.toNat_of_nonneg h.1
  exact ⟨Int.ofNat_lt.1 (by rw [e]; exact h.2), e⟩
theorem yN (P : PtP) : P.y.toNat < FldB.PP ∧ ((P.y.toNat : Nat) : Int) = P.y := by
  have h := P.hy
  have e : ((P.y.toNat : Nat) : Int) = P.y := Int.toNat_of_nonneg h.1
  exact ⟨Int.ofNat_lt.1 (by rw [e]; exact h.2), e⟩
theorem onN (P : PtP) : On (FldB.PP : Int) (EdP.dN : Int) (P.x.toNat : Int) (P.y.toNat : Int) := by
  rw [(xN P).2, (yN P).2]; exact P.on
theorem ok_enc (P : PtP) : okP (encP P) = true := enc_ok _ _ (xN P).1 (yN P).1 (onN P)
theorem pt_enc (P : PtP) : ptOf (encP P) (ok_enc P) = P := by
  refine Pt.eq ?_ ?_
  · show ((pXv (encP P) : Nat) : Int) = P.x
    rw [encP, enc_x _ _ (xN P).1 (yN P).1 (onN P)]; exact (xN P).2
  · show ((pYv (encP P) : Nat) : Int) = P.y
    rw [encP, pYv_enc _ _ (yN P).1]; exact (yN P).2
theorem is_q4 (l : List Int) (h : okP l = true) : Is (q4 l) (ptOf l h) := by
  refine ⟨fun k => cu.c.one k, E.of (Int.mul_one _).symm, E.of (Int.mul_one _).symm, ?_⟩
  show E (FldB.PP : Int) ((pXv l * pYv l % FldB.PP : Nat) : Int) (((pXv l : Nat) : Int) * ((pYv l : Nat) : Int) * 1)
  rw [Int.mul_one, ← Int.natCast_mul]
  exact E_of_mod (p := FldB.PP) (Nat.mod_mod _ _)
theorem mod_inv (p n Z : Nat) (h : Z % p * ((Z % p) ^ n % p) % p = 1) : Z * (Z ^ n % p) % p = 1 := by
  rw [← Nat.pow_mod] at h
  rw [Nat.mul_mod, Nat.mod_mod]
  rw [Nat.mul_mod, Nat.mod_mod, Nat.mod_mod] at h
  exact h
theorem aff_one {X Z : Nat} {x : Int} (hx : 0 ≤ x ∧ x < (FldB.PP : Int)) (hz : ¬ (FldB.PP : Int) ∣ (Z : Int)) (h : E (FldB.PP : Int) (X : Int) (x * (Z : Int))) : X * ivv Z % FldB.PP = x.toNat := by
  have hz0 : Z % FldB.PP ≠ 0 := fun e => hz (Int.natCast_dvd_natCast.2 (Nat.dvd_of_mod_eq_zero e))
  have hi : Z * ivv Z % FldB.PP = 1 := by
    unfold ivv
    exact mod_inv FldB.PP (FldB.PP - 2) Z (inverse (Z % FldB.PP) hz0 (Nat.mod_lt _ PP_pos))
  have eI : E (FldB.PP : Int) ((Z : Int) * ((ivv Z : Nat) : Int)) 1 := by
    rw [← Int.natCast_mul]
    exact E_of_mod (p := FldB.PP) (b := 1) (by rw [hi]; decide +kernel)
  have e1 : E (FldB.PP : Int) ((X * ivv Z % FldB.PP : Nat) : Int) ((X : Int) * ((ivv Z : Nat) : Int)) := by
    rw [← Int.natCast_mul]; exact E_of_mod (p := FldB.PP) (Nat.mod_mod _ _)
  have e2 : E (FldB.PP : Int) ((X * ivv Z % FldB.PP : Nat) : Int) x :=
    e1.trans ((h.mul (E.refl _ _)).trans ((E.of (Int.mul_assoc _ _ _)).trans (((E.refl _ _).mul eI).trans (E.of (Int.mul_one _)))))
  have h3 := E.can e2 ⟨Int.natCast_nonneg _, Int.ofNat_lt.2 (Nat.mod_lt _ PP_pos)⟩ hx
  rw [← h3, Int.toNat_natCast]
theorem aff_x {Q : Q4} {P : PtP} (h : Is Q P) : affX Q = P.x.toNat := aff_one P.hx h.hz h.hx
theorem aff_y {Q : Q4} {P : PtP} (h : Is Q P) : affY Q = P.y.toNat := aff_one P.hy h.hz h.hy
theorem enc4_is {Q : Q4} {P : PtP} (h : Is Q P) : enc4 Q = encP P := by
  unfold enc4 encP; rw [aff_x h, aff_y h]
theorem add_bytes (l m : List Int) (hl : okP l = true) (hm : okP m = true) : enc4 (addI (q4 l) (q4 m)) = encP (Pt.add cu (ptOf l hl) (ptOf m hm)) := enc4_is (is_add (is_q4 l hl) (is_q4 m hm))
theorem mul_bytes (k : Nat) (hk : k < 2 ^ 256) (l : List Int) (hl : okP l = true) : enc4 (tmI k (q4 l) 256) = encP (Pt.mul cu (ptOf l hl) k) := enc4_is (is_times k hk (is_q4 l hl))
def baseL : List Int := limbs 256 32 EdP.bY
theorem base_enc : encP baseP = baseL := by decide +kernel
theorem base_ok : okP baseL = true := by rw [← base_enc]; exact ok_enc _
theorem base_pt : ptOf baseL base_ok = baseP := by
  have h := pt_enc baseP
  refine Eq.trans ?_ h
  congr 1
theorem base_sum (k l : Nat) : Pt.add cu (Pt.mul cu baseP k) (Pt.mul cu baseP l) = Pt.mul cu baseP ((k + l) % EdP.ordN) := by
  rw [← Pt.mul_add, Pt.mul_mod cu baseP EdP.ordN _ order]
end Go.Proofs.Ytlajcahlmbjmnaa.FldGrp
