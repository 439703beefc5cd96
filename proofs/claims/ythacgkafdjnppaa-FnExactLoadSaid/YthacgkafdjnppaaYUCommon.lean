/- Plain facts on what the laws' own helpers compute: bytes taken over, compared, marked and held; no condition but sizes below 2 to the 40. -/
import Derived.Test.YthacgkafdjnppaaYUBase
namespace Go.Proofs.Ythacgkafdjnppaa.YU
open Go.RowKit Go.Proofs.Ythacgkafdjnppaa.Num Go.Proofs.Ythacgkafdjnppaa.XU Go.Proofs.YthacgkafdjnppaaW.PrintWords Go.Proofs.YthacgkafdjnppaaW.PrintLast
theorem toByteS_l0 (x0 : List Int) (hn : x0.length < 1099511627776) (d : Nat) : ∀ (i : Nat) (x3 : List Int), x3.length = x0.length → i + d = x0.length → (∀ j, j < i → x3.getD j 0 = x0.getD j 0) → Ev (fun k => laws_toByteS.l0 k x0 x3 (i : Int)) x0 := by
  induction d with
  | zero =>
    intro i x3 hl hd he
    refine Ev.step (f := fun _ => some x3) (fun k => ?_) ?_
    · simp only [laws_toByteS.l0]; rw [if_neg (by omega)]
    · exact Ev.eq (Ev.now _) (ext_getD hl (fun j hj => he j (by omega)))
  | succ d ih =>
    intro i x3 hl hd he
    refine Ev.step (fun k => ?_) (ih (i + 1) (x3.set i (x0.getD i 0)) (by simpa using hl) (by omega) ?_)
    · simp only [laws_toByteS.l0]
      rw [if_pos (by omega), if_pos (by omega), if_pos (by omega), w64 (by omega) (by omega), rd_nat]; rfl
    · intro j hj
      rw [getD_set _ _ _ _ (by omega)]
      by_cases h : j = i
      · rw [if_pos h, h]
      · rw [if_neg h]; exact he j (by omega)
theorem toByteS (l : List Int) (hn : l.length < 1099511627776) : Ev (fun k => laws_toByteS.f k l) l := by
  unfold laws_toByteS.f
  simp only [if_pos (show 0 ≤ (l.length : Int) by omega), if_pos (show ((l.length : Int)).toNat ≤ 281474976710656 by omega)]
  exact toByteS_l0 l hn l.length 0 _ (by simp) (by omega) (fun j hj => by omega)
theorem eqByteS_l0 (l m : List Int) (hn : l.length < 1099511627776) (hlm : l.length = m.length) (d : Nat) : ∀ (i : Nat), i + d = l.length → (∀ j, j < i → l.getD j 0 = m.getD j 0) → Ev (fun k => laws_eqByteS.l0 k l m (i : Int)) (decide (l = m)) := by
  induction d with
  | zero =>
    intro i hd he
    refine Ev.step (f := fun _ => some true) (fun k => ?_) ?_
    · simp only [laws_eqByteS.l0]; rw [if_neg (by omega)]
    · exact Ev.eq (Ev.now _) (decide_eq_true (ext_getD hlm (fun j hj => he j (by omega)))).symm
  | succ d ih =>
    intro i hd he
    by_cases h : l.getD i 0 = m.getD i 0
    · refine Ev.step (fun k => ?_) (ih (i + 1) (by omega) ?_)
      · simp only [laws_eqByteS.l0]
        rw [if_pos (by omega), if_pos (by omega), if_pos (by omega), rd_nat, rd_nat, if_pos h, w64 (by omega) (by omega)]; rfl
      · intro j hj
        by_cases e : j = i
        · rw [e]; exact h
        · exact he j (by omega)
    · refine Ev.step (f := fun _ => some false) (fun k => ?_) ?_
      · simp only [laws_eqByteS.l0]
        rw [if_pos (by omega), if_pos (by omega), if_pos (by omega), rd_nat, rd_nat, if_neg h]
      · exact Ev.eq (Ev.now _) (decide_eq_false (fun e => h (by rw [e]))).symm
theorem eqByteS (l m : List Int) (hn : l.length < 1099511627776) : Ev (fun k => laws_eqByteS.f k l m) (decide (l = m)) := by
  unfold laws_eqByteS.f
  by_cases h : l.length = m.length
  · simp only [if_pos (show (l.length : Int) = (m.length : Int) by omega)]
    exact eqByteS_l0 l m hn h l.length 0 (by omega) (fun j hj => by omega)
  · simp only [if_neg (show ¬ (l.length : Int) = (m.length : Int) by omega)]
    exact Ev.eq (Ev.now _) (decide_eq_false (fun e => h (by rw [e]))).symm
theorem eqByteS_same (l : List Int) (hn : l.length < 1099511627776) : Ev (fun k => laws_eqByteS.f k l l) true := by
  have := eqByteS l l hn
  simpa using this
end Go.Proofs.Ythacgkafdjnppaa.YU
