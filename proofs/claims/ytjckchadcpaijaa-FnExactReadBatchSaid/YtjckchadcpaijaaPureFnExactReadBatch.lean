/- The program's ReadBatch and the reference's give the same batch and code for all bytes, write into nothing and keep nothing; no condition beyond the statement's own. -/
import Derived.Test.YtjckchadcpaijaaYBFlatChangeR
import Derived.Test.YtjckchadcpaijaaYBReadEq
import Derived.Test.YtjckchadcpaijaaYBMarkM
namespace Go.Proofs.Ytjckchadcpaijaa.Pure
open Go.RowKit Go.Proofs.Ytjckchadcpaijaa Go.Proofs.Ytjckchadcpaijaa.Num Go.Proofs.Ytjckchadcpaijaa.YB Go.Proofs.Ytjckchadcpaijaa.XB Go.Proofs.YtjckchadcpaijaaW.PrintWords Go.Proofs.YtjckchadcpaijaaW.PrintLast

theorem wfb {x : Int} (h : (Lit.int .u8 x).wf = true) : 0 ≤ x ∧ x < 256 := by
  simp [Lit.wf, IntKind.min, IntKind.max, IntKind.signed, IntKind.bits] at h
  omega
theorem read_both (l : List Int) (hb : ∀ x ∈ l, 0 ≤ x ∧ x < 256) : ∃ (R : List S95) (c : Int), Ev (fun k => spec_ReadBatch.f k l) (R, c) ∧ impl_ReadBatch.f l = some (R, c) ∧ R.length ≤ 30 := by
  unfold spec_ReadBatch.f impl_ReadBatch.f impl_isShort_byte.f
  by_cases c1 : (l.length : Int) ≤ 65536
  · simp only [if_neg (show ¬ (l.length : Int) > 65536 by omega), decide_eq_true c1, Option.bind_some, if_true, impl_read l hb (by omega)]
    cases h : (readV l).2 with
    | true =>
      refine ⟨(readV l).1, 0, ?_, by simp, readV_len l h⟩
      refine Ev.bind (spec_read l hb (by omega)) ?_
      simp only [h, if_true]
      exact Ev.now _
    | false =>
      refine ⟨[], 3, ?_, by simp, by simp⟩
      refine Ev.bind (spec_read l hb (by omega)) ?_
      simp only [h, Bool.false_eq_true, if_false]
      exact Ev.now _
  · refine ⟨[], 2, ?_, ?_, by simp⟩
    · simp only [if_pos (show (l.length : Int) > 65536 by omega)]; exact Ev.now _
    · simp only [decide_eq_false c1, Option.bind_some, Bool.false_eq_true, if_false]

theorem FnExactReadBatch : laws_FnExactReadBatch.Pure := by
  intro l h1 h2 h3
  have hb : ∀ x ∈ l, 0 ≤ x ∧ x < 256 := fun x hx => wfb (h3 x hx)
  apply Ev.rounds
  unfold laws_FnExactReadBatch.f
  by_cases c : (l.length : Int) > 1048576
  · simp only [if_pos c]; exact Ev.now _
  · simp only [if_neg c]
    have hto := toByteS l (by omega)
    obtain ⟨R, cd, hs, hi, hR⟩ := read_both l hb
    have heq := eqChangeS_same R (by omega)
    have hmk := markChangeS_is R 1 (by omega) (by omega) (by omega)
    have hhd := heldChangeS_is 1 R.length (by omega) (by omega) (by omega)
    refine Ev.bind hto (Ev.bind hs (Ev.bind hto ?_))
    simp only [hi, Option.bind_some]
    refine Ev.bind heq ?_
    simp only [if_true]
    refine Ev.step (fun k => by rw [laws_FnExactReadBatch.j0, if_neg (by simp)]) ?_
    refine Ev.bind hto (Ev.bind (eqByteS_same l (by omega)) ?_)
    simp only [if_true]
    refine Ev.bind (markByteS l 1 (by omega) (by omega) (by omega)) ?_
    simp only [if_neg (show ¬ (1 : Int) + (l.length : Int) < 0 by omega)]
    refine Ev.bind heq ?_
    simp only [if_true]
    refine Ev.step (fun k => by rw [laws_FnExactReadBatch.j1, if_neg (by simp)]) ?_
    refine Ev.bind hmk ?_
    refine Ev.bind hhd ?_
    simp only [if_neg (show ¬ (1 : Int) + 3 * (R.length : Int) < 0 by omega), if_true]
    refine Ev.bind hto ?_
    simp only [hi, Option.bind_some]
    refine Ev.bind heq ?_
    simp only [if_true]
    refine Ev.step (fun k => by rw [laws_FnExactReadBatch.j2, if_neg (by simp)]) ?_
    refine Ev.bind hhd ?_
    simp only [if_neg (show ¬ (1 : Int) + 3 * (R.length : Int) < 0 by omega), if_true]
    exact Ev.now _
end Go.Proofs.Ytjckchadcpaijaa.Pure
