/- Plain facts: batches are told right or wrong alike by the program and the reference. -/
import Derived.Test.YthacgkafdjnppaaYUBase
import Derived.Test.YthacgkafdjnppaaYLoops
namespace Go.Proofs.Ythacgkafdjnppaa.YU
open Go.RowKit Go.Proofs.Ythacgkafdjnppaa.Num Go.Proofs.Ythacgkafdjnppaa.Loops Go.Proofs.Ythacgkafdjnppaa.XU Go.Proofs.YthacgkafdjnppaaW.PrintWords Go.Proofs.YthacgkafdjnppaaW.PrintLast
def chgB (s : S79) : Bool := decide (0 < s.f0.size) && (decide (s.f0.size ≤ 60) && (decide (s.f1.size ≤ 400) && (!s.f2 || s.f1.toList == [])))
theorem impl_chg (s : S79) : impl_isChange.f s.f0 s.f1 s.f2 = some (chgB s) := by
  unfold impl_isChange.f impl_isKey.f impl_within.f chgB
  by_cases h1 : 0 < s.f0.size
  · by_cases h2 : s.f0.size ≤ 60
    · by_cases h3 : s.f1.size ≤ 400
      · cases h : s.f2
        · simp [h1, h2, h3, show (1 : Int) ≤ (s.f0.size : Int) by omega, show (s.f0.size : Int) ≤ 60 by omega, show (s.f1.size : Int) ≤ 400 by omega]
        · simp [h1, h2, h3, show (1 : Int) ≤ (s.f0.size : Int) by omega, show (s.f0.size : Int) ≤ 60 by omega, show (s.f1.size : Int) ≤ 400 by omega]
      · simp [h1, h2, h3, show (1 : Int) ≤ (s.f0.size : Int) by omega, show (s.f0.size : Int) ≤ 60 by omega, show ¬ (s.f1.size : Int) ≤ 400 by omega]
    · simp [h1, h2, show (1 : Int) ≤ (s.f0.size : Int) by omega, show ¬ (s.f0.size : Int) ≤ 60 by omega]
  · simp [h1, show ¬ (1 : Int) ≤ (s.f0.size : Int) by omega]
theorem spec_chg (s : S79) : spec_l03Change.f s.f0 s.f1 s.f2 = some (chgB s) := by
  unfold spec_l03Change.f chgB
  by_cases h1 : 0 < s.f0.size
  · by_cases h2 : s.f0.size ≤ 60
    · by_cases h3 : s.f1.size ≤ 400
      · cases h : s.f2
        · simp [h1, h2, h3, show (s.f0.size : Int) ≤ 60 by omega, show (s.f1.size : Int) ≤ 400 by omega]
        · simp [h1, h2, h3, show (s.f0.size : Int) ≤ 60 by omega, show (s.f1.size : Int) ≤ 400 by omega]
      · simp [h1, h2, h3, show (s.f0.size : Int) ≤ 60 by omega, show ¬ (s.f1.size : Int) ≤ 400 by omega]
    · simp [h1, h2, show ¬ (s.f0.size : Int) ≤ 60 by omega]
  · simp [h1]
def batB (l : List S79) : Bool := decide ((l.length : Int) ≤ 30) && l.all chgB
theorem spec_bat_l0 (l : List S79) (hn : l.length ≤ 1048576) (d : Nat) : ∀ i : Nat, i + d = l.length → Ev (fun k => spec_l03Batch.l0 k l (i : Int)) ((l.drop i).all chgB) := by
  induction d with
  | zero =>
    intro i hd
    refine Ev.step (f := fun _ => some true) (fun k => ?_) ?_
    · simp only [spec_l03Batch.l0]; rw [if_neg (by omega)]
    · rw [List.drop_of_length_le (by omega)]; exact Ev.now _
  | succ d ih =>
    intro i hd
    rw [drop_cons l z79 i (by omega), List.all_cons]
    have rdq : rd_T79 l (i : Int) = l.getD i z79 := by simp [rd_T79]
    cases h : chgB (l.getD i z79) with
    | true =>
      refine Ev.step (fun k => ?_) (ih (i + 1) (by omega))
      simp only [spec_l03Batch.l0]
      rw [if_pos (by omega), if_pos (by omega), rdq, spec_chg, h]
      simp only [Option.bind_some, if_true]
      rw [inc i (by omega)]
    | false =>
      refine Ev.step (f := fun _ => some false) (fun k => ?_) (Ev.now _)
      simp only [spec_l03Batch.l0]
      rw [if_pos (by omega), if_pos (by omega), rdq, spec_chg, h]
      simp
theorem spec_bat (l : List S79) (hn : l.length ≤ 1048576) : Ev (fun k => spec_l03Batch.f k l) (batB l) := by
  unfold spec_l03Batch.f batB
  by_cases c : (l.length : Int) ≤ 30
  · simp only [if_neg (show ¬ (l.length : Int) > 30 by omega), decide_eq_true c, Bool.true_and]
    exact spec_bat_l0 l hn l.length 0 (by omega)
  · simp only [if_pos (show (l.length : Int) > 30 by omega), decide_eq_false c, Bool.false_and]
    exact Ev.now _
end Go.Proofs.Ythacgkafdjnppaa.YU
