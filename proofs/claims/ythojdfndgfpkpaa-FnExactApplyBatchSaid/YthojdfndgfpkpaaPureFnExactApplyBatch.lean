/- The program's ApplyBatch and the reference's give the same store and code for all stores and batches, write into nothing and keep nothing; no condition beyond the statement's own. -/
import Derived.Test.YthojdfndgfpkpaaYAFlatPair
import Derived.Test.YthojdfndgfpkpaaYAFlatChange
import Derived.Test.YthojdfndgfpkpaaYABatchEqI
namespace Go.Proofs.Ythojdfndgfpkpaa.Pure
open Go.RowKit Go.Proofs.Ythojdfndgfpkpaa Go.Proofs.Ythojdfndgfpkpaa.Num Go.Proofs.Ythojdfndgfpkpaa.Loops Go.Proofs.Ythojdfndgfpkpaa.YA Go.Proofs.Ythojdfndgfpkpaa.XA Go.Proofs.YthojdfndgfpkpaaW.PrintWords Go.Proofs.YthojdfndgfpkpaaW.PrintLast

theorem store_sorted {l : List S74} (h : spec_l03Store.all l = true) : impl_apply.Sorted l := by
  simp only [spec_l03Store.all, List.all_eq_true, List.mem_range] at h
  have adj : ∀ b, b + 1 < l.length → spec_l03Apply.lt (l.getD b z74).f0 (l.getD (b + 1) z74).f0 = true := fun b hb => by
    have := h (b + 1) hb
    unfold spec_l03Store.at_ at this
    simp only [Bool.and_eq_true, Bool.or_eq_true, decide_eq_true_eq] at this
    rcases this.2 with h1 | h1
    · omega
    · unfold spec_l03Apply.lt
      rw [Lib.toList_data, Lib.toList_data] at h1
      exact h1
  have all2 : ∀ d a, a + d + 1 < l.length → spec_l03Apply.lt (l.getD a z74).f0 (l.getD (a + d + 1) z74).f0 = true := by
    intro d
    induction d with
    | zero => intro a ha; exact adj a ha
    | succ d ih =>
      intro a ha
      have h1 := ih a (by omega)
      have h2 := adj (a + d + 1) (by omega)
      exact OpenOrd.less_trans _ _ _ h1 h2
  refine List.pairwise_iff_getElem.2 (fun a b ha hb hab => ?_)
  have := all2 (b - a - 1) a (by omega)
  rw [show a + (b - a - 1) + 1 = b by omega] at this
  rw [List.getD_eq_getElem?_getD, List.getD_eq_getElem?_getD, List.getElem?_eq_getElem ha, List.getElem?_eq_getElem hb] at this
  exact this
theorem apply_both (l : List S74) (m : List S88) (hm : m.length ≤ 1048576) : ∃ (R : List S74) (c : Int), Ev (fun k => spec_ApplyBatch.f k l m) (R, c) ∧ Ev (fun k => impl_ApplyBatch.f k l m) (R, c) ∧ R.length ≤ 1048576 := by
  unfold spec_ApplyBatch.f impl_ApplyBatch.f impl_Pair_50.f impl_Change_63.f
  by_cases c1 : l.length ≤ 4096
  · simp only [if_neg (show ¬ (l.length : Int) > 4096 by omega), decide_eq_true (show (l.length : Int) ≤ 4096 by omega), Option.bind_some, if_true]
    by_cases c2 : m.length ≤ 4096
    · simp only [decide_eq_false (show ¬ (m.length : Int) > 4096 by omega), decide_eq_true (show (m.length : Int) ≤ 4096 by omega), Bool.not_true]
      obtain ⟨b, hb⟩ : ∃ b, spec_l03Store.f l = some b := by unfold spec_l03Store.f; rw [if_pos c1]; exact ⟨_, rfl⟩
      have hbi : impl_isStore.f l = some b := hb
      have hbd : b = (decide ((l.length : Int) ≤ 100) && spec_l03Store.all l) := by unfold spec_l03Store.f at hb; rw [if_pos c1] at hb; injection hb with hb; exact hb.symm
      cases b with
      | false =>
        refine ⟨[], 1, ?_, ?_, by simp⟩
        · refine Ev.step (fun k => by rw [spec_ApplyBatch.j0, if_neg (by simp), hb, Option.bind_some, if_neg (by simp)]) ?_
          exact Ev.step (f := fun _ => some ([], 1)) (fun k => by rw [spec_ApplyBatch.j1, if_pos rfl]) (Ev.now _)
        · refine Ev.step (fun k => by rw [impl_ApplyBatch.j0, if_neg (by simp), hbi, Option.bind_some, if_neg (by simp)]) ?_
          exact Ev.step (f := fun _ => some ([], 1)) (fun k => by rw [impl_ApplyBatch.j1, if_pos rfl]) (Ev.now _)
      | true =>
        simp only [Bool.true_eq, Bool.and_eq_true, decide_eq_true_eq] at hbd
        have hso := store_sorted hbd.2
        have hsb := spec_bat m hm
        have hib := impl_bat m
        cases hbt : batB m with
        | false =>
          rw [hbt] at hsb hib
          refine ⟨[], 1, ?_, ?_, by simp⟩
          · refine Ev.step (fun k => by rw [spec_ApplyBatch.j0, if_neg (by simp), hb, Option.bind_some, if_pos rfl]) (Ev.bind hsb ?_)
            exact Ev.step (f := fun _ => some ([], 1)) (fun k => by rw [spec_ApplyBatch.j1, if_pos (by decide)]) (Ev.now _)
          · refine Ev.step (fun k => by rw [impl_ApplyBatch.j0, if_neg (by simp), hbi, Option.bind_some, if_pos rfl, hib, Option.bind_some]) ?_
            exact Ev.step (f := fun _ => some ([], 1)) (fun k => by rw [impl_ApplyBatch.j1, if_pos (by decide)]) (Ev.now _)
        | true =>
          rw [hbt] at hsb hib
          have hs : spec_l03Apply.f l m = some (spec_l03Apply.applied l m) := by unfold spec_l03Apply.f; rw [if_pos ⟨c1, c2⟩]
          have hi : impl_apply.f l m = some (spec_l03Apply.applied l m, decide ((spec_l03Apply.applied l m).length ≤ 100)) := by unfold impl_apply.f; rw [if_pos ⟨c1, c2, hso⟩]
          by_cases c3 : (spec_l03Apply.applied l m).length ≤ 100
          · refine ⟨spec_l03Apply.applied l m, 0, ?_, ?_, by omega⟩
            · refine Ev.step (fun k => by rw [spec_ApplyBatch.j0, if_neg (by simp), hb, Option.bind_some, if_pos rfl]) (Ev.bind hsb ?_)
              exact Ev.step (f := fun _ => some (spec_l03Apply.applied l m, 0)) (fun k => by rw [spec_ApplyBatch.j1, if_neg (by simp), hs, Option.bind_some, if_neg (by omega)]) (Ev.now _)
            · refine Ev.step (fun k => by rw [impl_ApplyBatch.j0, if_neg (by simp), hbi, Option.bind_some, if_pos rfl, hib, Option.bind_some]) ?_
              exact Ev.step (f := fun _ => some (spec_l03Apply.applied l m, 0)) (fun k => by rw [impl_ApplyBatch.j1, if_neg (by simp), hi, Option.bind_some, if_pos (by simp [c3])]) (Ev.now _)
          · refine ⟨[], 9, ?_, ?_, by simp⟩
            · refine Ev.step (fun k => by rw [spec_ApplyBatch.j0, if_neg (by simp), hb, Option.bind_some, if_pos rfl]) (Ev.bind hsb ?_)
              exact Ev.step (f := fun _ => some ([], 9)) (fun k => by rw [spec_ApplyBatch.j1, if_neg (by simp), hs, Option.bind_some, if_pos (by omega)]) (Ev.now _)
            · refine Ev.step (fun k => by rw [impl_ApplyBatch.j0, if_neg (by simp), hbi, Option.bind_some, if_pos rfl, hib, Option.bind_some]) ?_
              exact Ev.step (f := fun _ => some ([], 9)) (fun k => by rw [impl_ApplyBatch.j1, if_neg (by simp), hi, Option.bind_some, if_neg (by simp [c3])]) (Ev.now _)
    · refine ⟨[], 2, ?_, ?_, by simp⟩
      · simp only [decide_eq_true (show (m.length : Int) > 4096 by omega)]
        exact Ev.step (f := fun _ => some ([], 2)) (fun k => by rw [spec_ApplyBatch.j0, if_pos rfl]) (Ev.now _)
      · simp only [decide_eq_false (show ¬ (m.length : Int) ≤ 4096 by omega), Bool.not_false]
        exact Ev.step (f := fun _ => some ([], 2)) (fun k => by rw [impl_ApplyBatch.j0, if_pos rfl]) (Ev.now _)
  · refine ⟨[], 2, ?_, ?_, by simp⟩
    · simp only [if_pos (show (l.length : Int) > 4096 by omega)]
      exact Ev.step (f := fun _ => some ([], 2)) (fun k => by rw [spec_ApplyBatch.j0, if_pos rfl]) (Ev.now _)
    · simp only [decide_eq_false (show ¬ (l.length : Int) ≤ 4096 by omega), Option.bind_some, Bool.false_eq_true, if_false]
      exact Ev.step (f := fun _ => some ([], 2)) (fun k => by rw [impl_ApplyBatch.j0, if_pos rfl]) (Ev.now _)

theorem FnExactApplyBatch : laws_FnExactApplyBatch.Pure := by
  intro l m h h'
  obtain ⟨h1, h2, h3⟩ := h
  obtain ⟨h4, h5, h6⟩ := h'
  have hw : ∀ s ∈ l, s.f0.size ≤ 140737488351232 ∧ s.f1.size ≤ 140737488351232 := fun s hs => ⟨(h3 s hs).1, (h3 s hs).2⟩
  have hw2 : ∀ s ∈ m, s.f0.size ≤ 140737488351232 ∧ s.f1.size ≤ 140737488351232 := fun s hs => ⟨(h6 s hs).1, (h6 s hs).2.1⟩
  obtain ⟨t, ht, htl, hall⟩ := szPairS_is l (by omega) hw 1048576 (by omega) (by omega)
  apply Ev.rounds
  unfold laws_FnExactApplyBatch.f
  refine Ev.bind ht ?_
  by_cases c : t < 0
  · simp only [if_pos c]; exact Ev.now _
  · simp only [if_neg c]
    obtain ⟨hn, _⟩ := hall (by omega)
    obtain ⟨t2, ht2, _, hall2⟩ := szChangeS_is m (by omega) hw2 t (by omega) (by omega)
    refine Ev.bind ht2 ?_
    by_cases c2 : t2 < 0
    · simp only [if_pos c2]; exact Ev.now _
    · simp only [if_neg c2]
      obtain ⟨hn2, _⟩ := hall2 (by omega)
      have hto := toPairS_is l hn
      have hl : (l.map ofPair).length ≤ 1048576 := by rw [List.length_map]; exact hn
      have hto2 := toChangeS_is m (by omega)
      have hm : (m.map ofChange).length ≤ 1048576 := by rw [List.length_map]; omega
      generalize l.map ofPair = a at hto hl
      generalize m.map ofChange = b at hto2 hm
      obtain ⟨R, cd, hs, hi, hR⟩ := apply_both a b hm
      have heq := eqPairS_same R (by omega)
      have hmk := markPairS_is R 1 (by omega) (by omega) (by omega)
      have hhd := heldPairS_is 1 R.length (by omega) (by omega) (by omega)
      refine Ev.bind hto (Ev.bind hto2 (Ev.bind hs (Ev.bind hto (Ev.bind hto2 (Ev.bind hi ?_)))))
      refine Ev.bind heq ?_
      simp only [if_true]
      refine Ev.step (fun k => by rw [laws_FnExactApplyBatch.j0, if_neg (by simp)]) ?_
      refine Ev.bind hto (Ev.bind (eqPairS_same a hl) ?_)
      simp only [if_true]
      refine Ev.bind hto2 (Ev.bind (eqChangeS_same b hm) ?_)
      simp only [if_true]
      refine Ev.bind (markPairS_is a 1 (by omega) (by omega) hl) ?_
      refine Ev.bind (markChangeS_is b (1 + 2 * (a.length : Int)) (by omega) (by omega) hm) ?_
      simp only [if_neg (show ¬ (1 : Int) + 2 * (a.length : Int) + 3 * (b.length : Int) < 0 by omega)]
      refine Ev.bind heq ?_
      simp only [if_true]
      refine Ev.step (fun k => by rw [laws_FnExactApplyBatch.j1, if_neg (by simp)]) ?_
      refine Ev.bind hmk ?_
      refine Ev.bind hhd ?_
      simp only [if_neg (show ¬ (1 : Int) + 2 * (R.length : Int) < 0 by omega), if_true]
      refine Ev.bind hto (Ev.bind hto2 (Ev.bind hi ?_))
      refine Ev.bind heq ?_
      simp only [if_true]
      refine Ev.step (fun k => by rw [laws_FnExactApplyBatch.j2, if_neg (by simp)]) ?_
      refine Ev.bind hhd ?_
      simp only [if_neg (show ¬ (1 : Int) + 2 * (R.length : Int) < 0 by omega), if_true]
      exact Ev.now _
end Go.Proofs.Ythojdfndgfpkpaa.Pure
