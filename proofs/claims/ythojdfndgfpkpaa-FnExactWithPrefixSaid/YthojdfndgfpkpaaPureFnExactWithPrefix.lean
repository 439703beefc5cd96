/- The program's WithPrefix and the reference's give the same store and code for all stores and texts, write into nothing and keep nothing; no condition beyond the statement's own. -/
import Derived.Test.YthojdfndgfpkpaaYPFlatPair
namespace Go.Proofs.Ythojdfndgfpkpaa.Pure
open Go.RowKit Go.Proofs.Ythojdfndgfpkpaa Go.Proofs.Ythojdfndgfpkpaa.Num Go.Proofs.Ythojdfndgfpkpaa.Loops Go.Proofs.Ythojdfndgfpkpaa.YP Go.Proofs.Ythojdfndgfpkpaa.XP Go.Proofs.YthojdfndgfpkpaaW.PrintWords Go.Proofs.YthojdfndgfpkpaaW.PrintLast

theorem spec_loop (l : List S74) (p : ByteArray) (hn : l.length ≤ 4096) : Ev (fun k => spec_WithPrefix.l0 k l p [] 0) (l.filter (fun x => impl_WithPrefix_1.has x.f0 p), 0) := by
  have := up (fun k i => spec_WithPrefix.l0 k l p ((l.take i).filter (fun x => impl_WithPrefix_1.has x.f0 p)) (i : Int)) (l.filter (fun x => impl_WithPrefix_1.has x.f0 p), 0) l.length ?_ ?_
  · simpa using this
  · refine Ev.step (f := fun _ => some (l.filter (fun x => impl_WithPrefix_1.has x.f0 p), 0)) (fun k => ?_) (Ev.now _)
    simp only [spec_WithPrefix.l0]
    rw [if_neg (by omega), List.take_length]
  · intro i hi hev
    refine Ev.step (fun k => ?_) hev
    simp only [spec_WithPrefix.l0]
    rw [if_pos (show (i : Int) < (l.length : Int) by omega), if_pos (show 0 ≤ (i : Int) by omega), rdBPair, inc i (by omega)]
    have hs := impl_Pair_53.filter_step l (fun x => impl_WithPrefix_1.has x.f0 p) z74 i hi
    have hlf : ((l.take i).filter (fun x => impl_WithPrefix_1.has x.f0 p)).length ≤ 4096 := Nat.le_trans (List.length_filter_le _ _) (by simp; omega)
    generalize l.getD i z74 = x at hs ⊢
    rw [hs]
    by_cases c : p.size ≤ x.f0.size
    · rw [if_pos (by omega), if_pos (by omega), if_pos (by omega), Int.toNat_natCast]
      by_cases d : (x.f0.extract 0 p.size).toList = p.toList
      · rw [if_pos d, if_pos (by omega), if_pos (show impl_WithPrefix_1.has x.f0 p = true by unfold impl_WithPrefix_1.has; simp [c, d])]
      · rw [if_neg d, if_neg (show ¬ impl_WithPrefix_1.has x.f0 p = true by unfold impl_WithPrefix_1.has; simp [d]), List.append_nil]
    · rw [if_neg (by omega), if_neg (show ¬ impl_WithPrefix_1.has x.f0 p = true by unfold impl_WithPrefix_1.has; simp [c]), List.append_nil]
theorem with_both (l : List S74) (p : ByteArray) : ∃ (R : List S74) (c : Int), Ev (fun k => spec_WithPrefix.f k l p) (R, c) ∧ impl_WithPrefix.f l p = some (R, c) ∧ R.length ≤ l.length := by
  unfold spec_WithPrefix.f impl_WithPrefix.f
  by_cases c1 : l.length ≤ 4096
  · by_cases c2 : p.size ≤ 65536
    · obtain ⟨b, hb⟩ := impl_WithPrefix.store_is c1
      have hb2 : spec_l03Store.f l = some b := hb
      rw [if_pos ⟨c1, c2⟩, hb]
      cases b with
      | true =>
        refine ⟨l.filter (fun x => impl_WithPrefix_1.has x.f0 p), 0, ?_, by simp, List.length_filter_le _ _⟩
        simp only [if_neg (show ¬ (l.length : Int) > 4096 by omega), decide_eq_false (show ¬ (p.size : Int) > 65536 by omega)]
        refine Ev.step (fun k => by rw [spec_WithPrefix.j0, if_neg (by simp), hb2, Option.bind_some, if_pos rfl]) ?_
        exact spec_loop l p c1
      | false =>
        refine ⟨[], 1, ?_, by simp, by simp⟩
        simp only [if_neg (show ¬ (l.length : Int) > 4096 by omega), decide_eq_false (show ¬ (p.size : Int) > 65536 by omega)]
        refine Ev.step (f := fun _ => some ([], 1)) (fun k => by rw [spec_WithPrefix.j0, if_neg (by simp), hb2, Option.bind_some, if_neg (by simp)]) (Ev.now _)
    · refine ⟨[], 2, ?_, by rw [if_neg (fun h => c2 h.2)], by simp⟩
      simp only [if_neg (show ¬ (l.length : Int) > 4096 by omega), decide_eq_true (show (p.size : Int) > 65536 by omega)]
      exact Ev.step (f := fun _ => some ([], 2)) (fun k => by rw [spec_WithPrefix.j0, if_pos rfl]) (Ev.now _)
  · refine ⟨[], 2, ?_, by rw [if_neg (fun h => c1 h.1)], by simp⟩
    simp only [if_pos (show (l.length : Int) > 4096 by omega)]
    exact Ev.step (f := fun _ => some ([], 2)) (fun k => by rw [spec_WithPrefix.j0, if_pos rfl]) (Ev.now _)

theorem FnExactWithPrefix : laws_FnExactWithPrefix.Pure := by
  intro l p h hp
  obtain ⟨h1, h2, h3⟩ := h
  have hw : ∀ s ∈ l, s.f0.size ≤ 140737488351232 ∧ s.f1.size ≤ 140737488351232 := fun s hs => ⟨(h3 s hs).1, (h3 s hs).2⟩
  obtain ⟨t, ht, _, hall⟩ := szPairS_is l (by omega) hw 1048576 (by omega) (by omega)
  apply Ev.rounds
  unfold laws_FnExactWithPrefix.f
  by_cases c0 : (p.size : Int) > 1048576
  · simp only [if_pos c0]; exact Ev.now _
  · simp only [if_neg c0]
    refine Ev.bind ht ?_
    by_cases c : t < 0
    · simp only [if_pos c]; exact Ev.now _
    · simp only [if_neg c]
      obtain ⟨hn, _⟩ := hall (by omega)
      have hto := toPairS_is l hn
      have hm : (l.map ofPair).length ≤ 1048576 := by rw [List.length_map]; exact hn
      generalize l.map ofPair = m at hto hm
      obtain ⟨R, cd, hs, hi, hR⟩ := with_both m p
      have heq := eqPairS_same R (by omega)
      have hmk := markPairS_is R 1 (by omega) (by omega) (by omega)
      have hhd := heldPairS_is 1 R.length (by omega) (by omega) (by omega)
      refine Ev.bind hto (Ev.bind hs (Ev.bind hto ?_))
      simp only [hi, Option.bind_some]
      refine Ev.bind heq ?_
      simp only [if_true]
      refine Ev.step (fun k => by rw [laws_FnExactWithPrefix.j0, if_neg (by simp)]) ?_
      refine Ev.bind hto (Ev.bind (eqPairS_same m hm) ?_)
      simp only [if_true]
      refine Ev.bind (markPairS_is m 1 (by omega) (by omega) hm) ?_
      simp only [if_neg (show ¬ (1 : Int) + 2 * (m.length : Int) < 0 by omega)]
      refine Ev.bind heq ?_
      simp only [if_true]
      refine Ev.step (fun k => by rw [laws_FnExactWithPrefix.j1, if_neg (by simp)]) ?_
      refine Ev.bind hmk ?_
      refine Ev.bind hhd ?_
      simp only [if_neg (show ¬ (1 : Int) + 2 * (R.length : Int) < 0 by omega), if_true]
      refine Ev.bind hto ?_
      simp only [hi, Option.bind_some]
      refine Ev.bind heq ?_
      simp only [if_true]
      refine Ev.step (fun k => by rw [laws_FnExactWithPrefix.j2, if_neg (by simp)]) ?_
      refine Ev.bind hhd ?_
      simp only [if_neg (show ¬ (1 : Int) + 2 * (R.length : Int) < 0 by omega), if_true]
      exact Ev.now _
end Go.Proofs.Ythojdfndgfpkpaa.Pure
