/- The program's ScalarOf and the reference's give the same bytes and code for all bytes, write into nothing and keep nothing; no condition beyond the statement's own. -/
import Derived.Test.YtijeackkgcnbgaaYSModEq
import Derived.Test.YtijeackkgcnbgaaYSCommon
import Derived.Test.YtijeackkgcnbgaaYSMark
namespace Go.Proofs.Ytijeackkgcnbgaa.Pure
open Go.RowKit Go.Proofs.Ytijeackkgcnbgaa.Limb Go.Proofs.Ytijeackkgcnbgaa.FldA Go.Proofs.Ytijeackkgcnbgaa.FldB Go.Proofs.Ytijeackkgcnbgaa.FldS Go.Proofs.Ytijeackkgcnbgaa.Num Go.Proofs.Ytijeackkgcnbgaa.YS Go.Proofs.Ytijeackkgcnbgaa.XS Go.Proofs.YtijeackkgcnbgaaW.PrintWords Go.Proofs.YtijeackkgcnbgaaW.PrintLast

theorem wf_u8s {x : Int} (h : (Lit.int .u8 x).wf = true) : 0 ≤ x ∧ x < 256 := by
  simp [Lit.wf, IntKind.min, IntKind.max, IntKind.signed, IntKind.bits] at h
  omega
/-- what both answer -/
def scR (l : List Int) : List Int × Int := if 65536 < l.length then ([], 2) else if 64 < l.length then ([], 4) else (limbs 256 32 (bval l % orderN), 0)
theorem scR_length (l : List Int) : (scR l).1.length ≤ 32 := by
  unfold scR
  split
  · simp
  · split
    · simp
    · simp [limbs_length]
theorem impl_sc (l : List Int) (ho : okB l = true) : Ev (fun _ => impl_ScalarOf.f l) (scR l) := by
  refine ⟨0, fun _ _ => ?_⟩
  unfold impl_ScalarOf.f scR
  rw [if_pos ho]
  split
  · rfl
  · split <;> rfl
theorem spec_sc (l : List Int) (ho : Ok 256 l) : Ev (fun k => spec_ScalarOf.f k l) (scR l) := by
  unfold spec_ScalarOf.f scR
  by_cases h1 : 65536 < l.length
  · simp only [if_pos h1, if_pos (show (l.length : Int) > 65536 by omega)]; exact Ev.now _
  · simp only [if_neg h1, if_neg (show ¬ (l.length : Int) > 65536 by omega)]
    by_cases h2 : 64 < l.length
    · simp only [if_pos h2, if_pos (show (l.length : Int) > 64 by omega)]; exact Ev.now _
    · simp only [if_neg h2, if_neg (show ¬ (l.length : Int) > 64 by omega)]
      exact Ev.bind (l05Mod l ho (by omega)) (Ev.now _)
theorem FnExactScalarOf : laws_FnExactScalarOf.Pure := by
  intro l _ _ hw
  refine Ev.rounds (g := fun k => laws_FnExactScalarOf.f k l) ?_
  have hb : ∀ b ∈ l, 0 ≤ b ∧ b < 256 := fun b h => wf_u8s (hw b h)
  have ho : okB l = true := by
    rw [okB, List.all_eq_true]
    intro x hx
    have h := hb x hx
    rw [decide_eq_true h.1, decide_eq_true h.2]; rfl
  unfold laws_FnExactScalarOf.f
  by_cases hl : (l.length : Int) > 1048576
  · simp only [if_pos hl]; exact Ev.now _
  · simp only [if_neg hl]
    have hr := scR_length l
    have hi := impl_sc l ho
    have ht := toByteS l (by omega)
    have he := eqByteS_same (scR l).1 (by omega)
    have hm := markByteS (scR l).1 1 (by omega) (by omega) (by omega)
    have hh := heldByteS 1 (scR l).1.length (by omega) (by omega) (by omega)
    refine Ev.bind ht (Ev.bind (spec_sc l (okB_ok l ho)) (Ev.bind ht (Ev.bind hi (Ev.bind he ?_))))
    simp only [if_true, bne_self_eq_false]
    refine Ev.step (fun k => by simp only [laws_FnExactScalarOf.j0]; exact rfl) ?_
    simp only [Bool.false_eq_true, if_false]
    refine Ev.bind ht (Ev.bind (eqByteS_same l (by omega)) ?_)
    simp only [if_true]
    refine Ev.bind (markByteS l 1 (by omega) (by omega) (by omega)) ?_
    simp only [if_neg (show ¬ (1 + (l.length : Int)) < 0 by omega)]
    refine Ev.bind he ?_
    simp only [if_true, bne_self_eq_false]
    refine Ev.step (fun k => by simp only [laws_FnExactScalarOf.j1]; exact rfl) ?_
    simp only [Bool.false_eq_true, if_false]
    refine Ev.bind hm (Ev.bind hh ?_)
    simp only [if_neg (show ¬ (1 + ((scR l).1.length : Int)) < 0 by omega), if_true]
    refine Ev.bind ht (Ev.bind hi (Ev.bind he ?_))
    simp only [if_true, bne_self_eq_false]
    refine Ev.step (fun k => by simp only [laws_FnExactScalarOf.j2]; exact rfl) ?_
    simp only [Bool.false_eq_true, if_false]
    refine Ev.bind hh ?_
    simp only [if_neg (show ¬ (1 + ((scR l).1.length : Int)) < 0 by omega), if_true]
    exact Ev.now _
end Go.Proofs.Ytijeackkgcnbgaa.Pure
