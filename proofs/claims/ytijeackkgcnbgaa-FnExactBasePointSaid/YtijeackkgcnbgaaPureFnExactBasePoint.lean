/- The program's BasePoint and the reference's give the same bytes; no condition beyond the statement's own. -/
import Derived.Test.YtijeackkgcnbgaaYTMarkE
import Derived.Test.YtijeackkgcnbgaaYTCommonE
import Derived.Test.YtijeackkgcnbgaaYMathPrimeP
namespace Go.Proofs.Ytijeackkgcnbgaa.Pure
open Go.RowKit Go.Proofs.Ytijeackkgcnbgaa.Limb Go.Proofs.Ytijeackkgcnbgaa.FldA Go.Proofs.Ytijeackkgcnbgaa.FldB Go.Proofs.Ytijeackkgcnbgaa.Num Go.Proofs.Ytijeackkgcnbgaa.YT Go.Proofs.Ytijeackkgcnbgaa.XT Go.Proofs.YtijeackkgcnbgaaW.PrintWords Go.Proofs.YtijeackkgcnbgaaW.PrintLast

theorem base_y : 4 * (5 ^ (FldB.PP - 2) % FldB.PP) % FldB.PP = baseY * 1 % FldB.PP := by
  rw [← Prime.pm_eq FldB.PP 255 5 (FldB.PP - 2) (by decide)]
  decide +kernel
theorem FnExactBasePoint : laws_FnExactBasePoint.Pure := by
  refine Ev.rounds (g := fun k => laws_FnExactBasePoint.f k) ?_
  have hs : spec_BasePoint.f = some (limbs 256 32 (baseY * 1 % FldB.PP)) := by
    unfold spec_BasePoint.f spec_l05Base.f
    rw [base_y]; rfl
  have hi : impl_BasePoint.f = some (limbs 256 32 (baseY * 1 % FldB.PP)) := rfl
  have hl : (limbs 256 32 (baseY * 1 % FldB.PP)).length = 32 := limbs_length _ _ _
  unfold laws_FnExactBasePoint.f
  generalize limbs 256 32 (baseY * 1 % FldB.PP) = l at *
  simp only [hs, hi, Option.bind_some]
  have he := eqByteS_same l (by omega)
  have hm := markByteS l 1 (by omega) (by omega) (by omega)
  have hh := heldByteS 1 l.length (by omega) (by omega) (by omega)
  refine Ev.bind he ?_
  simp only [if_true]
  refine Ev.bind hm (Ev.bind hh ?_)
  simp only [if_neg (show ¬ (1 + (l.length : Int)) < 0 by omega), if_true]
  refine Ev.bind he ?_
  simp only [if_true]
  refine Ev.bind hh ?_
  simp only [if_neg (show ¬ (1 + (l.length : Int)) < 0 by omega), if_true]
  exact Ev.now _
end Go.Proofs.Ytijeackkgcnbgaa.Pure
