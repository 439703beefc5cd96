/- The program's BatchBytes and the reference's give the same bytes and code for all batches, write into nothing and keep nothing; no condition beyond the statement's own. -/
import Derived.Test.YthojdfndgfpkpaaYBFlatChange
import Derived.Test.YthojdfndgfpkpaaYBBatchEq
import Derived.Test.YthojdfndgfpkpaaYBMarkE
namespace Go.Proofs.Ythojdfndgfpkpaa.Pure
open Go.RowKit Go.Proofs.Ythojdfndgfpkpaa Go.Proofs.Ythojdfndgfpkpaa.Num Go.Proofs.Ythojdfndgfpkpaa.YB Go.Proofs.Ythojdfndgfpkpaa.XB Go.Proofs.YthojdfndgfpkpaaW.PrintWords Go.Proofs.YthojdfndgfpkpaaW.PrintLast

theorem batch_fits {l : List S88} (h : batB l = true) : spec_l03Bytes.fits l = true := by
  simp only [batB, chgB, Bool.and_eq_true, decide_eq_true_eq, List.all_eq_true] at h
  simp only [spec_l03Bytes.fits, Bool.and_eq_true, decide_eq_true_eq, List.all_eq_true]
  exact ⟨by omega, fun s hs => ⟨(h.2 s hs).2.1, (h.2 s hs).2.2.1⟩⟩
theorem bytes_both (l : List S88) (hn : l.length ≤ 1048576) : ∃ (R : List Int) (c : Int), Ev (fun k => spec_BatchBytes.f k l) (R, c) ∧ impl_BatchBytes.f l = some (R, c) ∧ R.length ≤ 1048576 := by
  unfold spec_BatchBytes.f impl_BatchBytes.f impl_Change_63.f
  by_cases c1 : (l.length : Int) ≤ 4096
  · simp only [if_neg (show ¬ (l.length : Int) > 4096 by omega), decide_eq_true c1, Option.bind_some, if_true, impl_bat]
    cases hb : batB l with
    | true =>
      have hf := batch_fits hb
      have hl := spec_l03Bytes.fits_is hf
      refine ⟨l.flatMap spec_l03Bytes.one, 0, ?_, ?_, ?_⟩
      · refine Ev.bind (hb ▸ spec_bat l hn) ?_
        simp only [if_true, spec_l03Bytes.f, if_pos hf, Option.bind_some]
        exact Ev.now _
      · simp only [if_true, impl_batchBytes.f, spec_l03Bytes.f, if_pos hf, Option.bind_some]
      · have := spec_l03Bytes.len l hl.2
        omega
    | false =>
      refine ⟨[], 1, ?_, by simp, by simp⟩
      refine Ev.bind (hb ▸ spec_bat l hn) ?_
      simp only [Bool.false_eq_true, if_false]
      exact Ev.now _
  · refine ⟨[], 2, ?_, ?_, by simp⟩
    · simp only [if_pos (show (l.length : Int) > 4096 by omega)]; exact Ev.now _
    · simp only [decide_eq_false c1, Option.bind_some, Bool.false_eq_true, if_false]

theorem FnExactBatchBytes : laws_FnExactBatchBytes.Pure := by
  intro l h
  obtain ⟨h1, h2, h3⟩ := h
  have hw : ∀ s ∈ l, s.f0.size ≤ 140737488351232 ∧ s.f1.size ≤ 140737488351232 := fun s hs => ⟨(h3 s hs).1, (h3 s hs).2.1⟩
  obtain ⟨t, ht, _, hall⟩ := szChangeS_is l (by omega) hw 1048576 (by omega) (by omega)
  apply Ev.rounds
  unfold laws_FnExactBatchBytes.f
  refine Ev.bind ht ?_
  by_cases c : t < 0
  · simp only [if_pos c]; exact Ev.now _
  · simp only [if_neg c]
    obtain ⟨hn, _⟩ := hall (by omega)
    have hto := toChangeS_is l hn
    have hm : (l.map ofChange).length ≤ 1048576 := by rw [List.length_map]; exact hn
    generalize l.map ofChange = m at hto hm
    obtain ⟨R, cd, hs, hi, hR⟩ := bytes_both m hm
    have heq := eqByteS_same R (by omega)
    have hmk := markByteS R 1 (by omega) (by omega) (by omega)
    have hhd := heldByteS 1 R.length (by omega) (by omega) (by omega)
    refine Ev.bind hto (Ev.bind hs (Ev.bind hto ?_))
    simp only [hi, Option.bind_some]
    refine Ev.bind heq ?_
    simp only [if_true]
    refine Ev.step (fun k => by rw [laws_FnExactBatchBytes.j0, if_neg (by simp)]) ?_
    refine Ev.bind hto (Ev.bind (eqChangeS_same m hm) ?_)
    simp only [if_true]
    refine Ev.bind (markChangeS_is m 1 (by omega) (by omega) hm) ?_
    simp only [if_neg (show ¬ (1 : Int) + 3 * (m.length : Int) < 0 by omega)]
    refine Ev.bind heq ?_
    simp only [if_true]
    refine Ev.step (fun k => by rw [laws_FnExactBatchBytes.j1, if_neg (by simp)]) ?_
    refine Ev.bind hmk ?_
    refine Ev.bind hhd ?_
    simp only [if_neg (show ¬ (1 : Int) + (R.length : Int) < 0 by omega), if_true]
    refine Ev.bind hto ?_
    simp only [hi, Option.bind_some]
    refine Ev.bind heq ?_
    simp only [if_true]
    refine Ev.step (fun k => by rw [laws_FnExactBatchBytes.j2, if_neg (by simp)]) ?_
    refine Ev.bind hhd ?_
    simp only [if_neg (show ¬ (1 : Int) + (R.length : Int) < 0 by omega), if_true]
    exact Ev.now _
end Go.Proofs.Ythojdfndgfpkpaa.Pure
