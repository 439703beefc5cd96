/- The numbers of points as the reference makes them; no program in sight. -/
import Derived.Test.YtlajcahlmbjmnaaYFldOps
set_option linter.unusedVariables false
namespace Go.Proofs.Ytlajcahlmbjmnaa.FldOpsS
open Go Go.RowKit Go.Proofs.Ytlajcahlmbjmnaa.Limb Go.Proofs.Ytlajcahlmbjmnaa.FldA Go.Proofs.Ytlajcahlmbjmnaa.FldB Go.Proofs.Ytlajcahlmbjmnaa.FldP Go.Proofs.Ytlajcahlmbjmnaa.FldPt Go.Proofs.Ytlajcahlmbjmnaa.FldOps Go.Proofs.Ytlajcahlmbjmnaa.Arr Go.Proofs.Ytlajcahlmbjmnaa.EdP
def md (Q : Q4) : Q4 := ⟨Q.x % FldB.PP, Q.y % FldB.PP, Q.z % FldB.PP, Q.t % FldB.PP⟩
def LtB (Q : Q4) : Prop := Q.x < BB ∧ Q.y < BB ∧ Q.z < BB ∧ Q.t < BB
def addS (P Q : Q4) (d2 : Nat) : Q4 :=
  let a := fm (fs P.y P.x) (fs Q.y Q.x)
  let b := fm (fa P.y P.x) (fa Q.y Q.x)
  let c := fm (fm P.t d2) Q.t
  let d := fm (fa P.z P.z) Q.z
  let e := fs b a
  let f := fs d c
  let g := fa d c
  let h := fa b a
  ⟨fm e f, fm g h, fm f g, fm e h⟩
theorem mul_res (x y c : Nat) (h : c % FldB.PP = x * y % FldB.PP) : c % FldB.PP = fm (x % FldB.PP) (y % FldB.PP) := by
  rw [h, Nat.mul_mod]; rfl
theorem add_res (x y c : Nat) (h : c % FldB.PP = (x + y) % FldB.PP) : c % FldB.PP = fa (x % FldB.PP) (y % FldB.PP) := by
  rw [h, Nat.add_mod]; rfl
theorem sub_res (x y c : Nat) (h : (c + y) % FldB.PP = x % FldB.PP) : c % FldB.PP = fs (x % FldB.PP) (y % FldB.PP) := by
  show c % FldB.PP = (x % FldB.PP + FldB.PP - y % FldB.PP) % FldB.PP
  have hP := PP_pos
  rw [← h, Nat.add_mod]
  have h1 := Nat.mod_lt c hP
  have h2 := Nat.mod_lt y hP
  generalize c % FldB.PP = u at *
  generalize y % FldB.PP = v at *
  clear h
  generalize FldB.PP = p at *
  rcases Nat.lt_or_ge (u + v) p with h3 | h3
  · rw [Nat.mod_eq_of_lt h3, show u + v + p - v = u + p by omega, Nat.add_mod_right, Nat.mod_eq_of_lt h1]
  · rw [Nat.mod_eq_sub_mod h3, Nat.mod_eq_of_lt (show u + v - p < p by omega), show u + v - p + p - v = u by omega, Nat.mod_eq_of_lt h1]
theorem is_addS {A B : Q4} {P Q : PtP} {d2 : Nat} (hd : d2 = fa EdP.dN EdP.dN) (hA : A.x ≤ FldB.PP ∧ B.x ≤ FldB.PP) (h : Is A P) (k : Is B Q) : Is (addS A B d2) (Edw.Pt.add cu P Q) := by
  have e2 : Edw.E (FldB.PP : Int) (d2 : Int) (2 * (EdP.dN : Int)) := by
    rw [hd]; exact (E_fa _ _).trans (Edw.E.of (by omega))
  refine Edw.Rep.plusS cu.c P.on Q.on h k (Edw.Pt.sum cu P Q) (d2 := (d2 : Nat)) (a := (fm (fs A.y A.x) (fs B.y B.x) : Nat)) (b := (fm (fa A.y A.x) (fa B.y B.x) : Nat)) (c := (fm (fm A.t d2) B.t : Nat)) (dd := (fm (fa A.z A.z) B.z : Nat)) (e := (fs (fm (fa A.y A.x) (fa B.y B.x)) (fm (fs A.y A.x) (fs B.y B.x)) : Nat)) (f := (fs (fm (fa A.z A.z) B.z) (fm (fm A.t d2) B.t) : Nat)) (g := (fa (fm (fa A.z A.z) B.z) (fm (fm A.t d2) B.t) : Nat)) (h := (fa (fm (fa A.y A.x) (fa B.y B.x)) (fm (fs A.y A.x) (fs B.y B.x)) : Nat)) e2 ?_ ?_ ?_ ?_ (E_fs _ _ (Nat.le_of_lt (fm_lt _ _))) (E_fs _ _ (Nat.le_of_lt (fm_lt _ _))) (E_fa _ _) (E_fa _ _) (E_fm _ _) (E_fm _ _) (E_fm _ _) (E_fm _ _)
  · exact (E_fm _ _).trans ((E_fs _ _ hA.1).mul (E_fs _ _ hA.2))
  · exact (E_fm _ _).trans ((E_fa _ _).mul (E_fa _ _))
  · exact (E_fm _ _).trans ((E_fm _ _).mul (Edw.E.refl _ _))
  · exact (E_fm _ _).trans ((E_fa _ _).mul (Edw.E.refl _ _))
end Go.Proofs.Ytlajcahlmbjmnaa.FldOpsS
