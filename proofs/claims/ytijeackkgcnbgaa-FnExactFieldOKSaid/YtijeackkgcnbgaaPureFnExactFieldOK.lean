/- The program's FieldOK and the reference's give the same answer for all bytes, and write into nothing; no condition beyond the statement's own. -/
import Derived.Test.YtijeackkgcnbgaaYFCommon
namespace Go.Proofs.Ytijeackkgcnbgaa.Pure
open Go.RowKit Go.Proofs.Ytijeackkgcnbgaa.Num Go.Proofs.Ytijeackkgcnbgaa.YF Go.Proofs.Ytijeackkgcnbgaa.XF Go.Proofs.Ytijeackkgcnbgaa.FldB Go.Proofs.YtijeackkgcnbgaaW.PrintWords Go.Proofs.YtijeackkgcnbgaaW.PrintLast

theorem byte_wf {x : Int} (h : (Lit.int .u8 x).wf = true) : 0 ≤ x ∧ x < 256 := by
  simp [Lit.wf, IntKind.min, IntKind.max, IntKind.signed, IntKind.bits] at h
  omega
theorem FnExactFieldOK : laws_FnExactFieldOK.Pure := by
  intro l _ _ hw
  refine Ev.rounds (g := fun k => laws_FnExactFieldOK.f k l) ?_
  have ho : okB l = true := by
    rw [okB, List.all_eq_true]
    intro x hx
    have h : 0 ≤ x ∧ x < 256 := byte_wf (hw x hx)
    rw [decide_eq_true h.1, decide_eq_true h.2]; rfl
  unfold laws_FnExactFieldOK.f
  by_cases hl : (l.length : Int) > 1048576
  · simp only [if_pos hl]; exact Ev.now _
  · simp only [if_neg hl]
    have hs : spec_FieldOK.f l = some (isEl l) := by unfold spec_FieldOK.f spec_l05Is.f; rw [if_pos ho]; rfl
    have hi : impl_FieldOK.f l = some (isEl l) := by unfold impl_FieldOK.f impl_isElement.f; rw [if_pos ho]; rfl
    refine Ev.bind (toByteS l (by omega)) ?_
    simp only [hs, Option.bind_some]
    refine Ev.bind (toByteS l (by omega)) ?_
    simp only [hi, Option.bind_some, bne_self_eq_false, Bool.false_eq_true, if_false]
    exact Ev.bind (toByteS l (by omega)) (Ev.bind (eqByteS_same l (by omega)) (Ev.now _))
end Go.Proofs.Ytijeackkgcnbgaa.Pure
