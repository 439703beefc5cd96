/- Plain facts on what the laws' own helpers do with slices of Change: weighed, taken over, compared, marked and held; no condition but sizes. -/
import Derived.Test.YtjckchadcpaijaaYBMTxt
namespace Go.Proofs.Ytjckchadcpaijaa.YB
open Go.RowKit Go.Proofs.Ytjckchadcpaijaa.Num Go.Proofs.Ytjckchadcpaijaa.Loops Go.Proofs.Ytjckchadcpaijaa.XB Go.Proofs.YtjckchadcpaijaaW.PrintWords Go.Proofs.YtjckchadcpaijaaW.PrintLast
set_option linter.unusedSimpArgs false

theorem rdBChange (l : List S95) (i : Nat) : rd_T95 l (i : Int) = l.getD i z95 := by simp [rd_T95]

theorem eqChange_same (s : S95) : laws_eqChange.f s.f0 s.f1 s.f2 s.f0 s.f1 s.f2 = some true := by
  unfold laws_eqChange.f
  simp
theorem eqChangeS_same (l : List S95) (hn : l.length ≤ 1048576) : Ev (fun k => laws_eqChangeS.f k l l) true := by
  unfold laws_eqChangeS.f
  simp only [if_true]
  refine up (fun k i => laws_eqChangeS.l0 k l l (i : Int)) true l.length ?_ ?_
  · refine Ev.step (f := fun _ => some true) (fun k => ?_) (Ev.now _)
    simp only [laws_eqChangeS.l0]
    rw [if_neg (by omega)]
  · intro i hi hev
    refine Ev.step (fun k => ?_) hev
    simp only [laws_eqChangeS.l0]
    rw [if_pos (show (i : Int) < (l.length : Int) by omega), if_pos (show 0 ≤ (i : Int) by omega), if_pos (show (i : Int) < (l.length : Int) by omega), rdBChange, eqChange_same]
    simp only [Option.bind_some, if_true]
    rw [inc i (by omega)]

/-- a marked one -/
def mkChange (a : Int) : S95 := ⟨mt a, mt (a + 1), ((a + 2).tmod 3 == 0)⟩
def mkChangeS (a : Int) (n : Nat) : List S95 := (List.range n).map fun (j : Nat) => mkChange (a + 3 * (j : Int))
theorem mkChangeS_length (a : Int) (n : Nat) : (mkChangeS a n).length = n := by simp [mkChangeS]
theorem mkChangeS_get (a : Int) (n i : Nat) (h : i < n) : (mkChangeS a n)[i]? = some (mkChange (a + 3 * (i : Int))) := by simp [mkChangeS, h]
theorem mkChangeS_getD (a : Int) (n i : Nat) (h : i < n) : (mkChangeS a n).getD i z95 = mkChange (a + 3 * (i : Int)) := by rw [List.getD_eq_getElem?_getD, mkChangeS_get a n i h]; rfl
theorem markChangeS_is (l : List S95) (a : Int) (ha : 0 ≤ a) (ha1 : a ≤ 16777216) (hn : l.length ≤ 1048576) : Ev (fun k => laws_markChangeS.f k l a) (a + 3 * (l.length : Int), mkChangeS a l.length) := by
  unfold laws_markChangeS.f
  have hm := mkChangeS_length a l.length
  have := up (fun k i => laws_markChangeS.l0 k (swapped l (mkChangeS a l.length) i) (a + 3 * (i : Int)) (i : Int)) (a + 3 * (l.length : Int), mkChangeS a l.length) l.length ?_ ?_
  · rw [swapped_zero] at this; simpa using this
  · refine Ev.step (f := fun _ => some (a + 3 * (l.length : Int), mkChangeS a l.length)) (fun k => ?_) (Ev.now _)
    simp only [laws_markChangeS.l0]
    rw [swapped_length _ _ _ hm, if_neg (by omega), swapped_all _ _ hm]
  · intro i hi hev
    have hl := swapped_length l (mkChangeS a l.length) i hm
    refine Ev.step (fun k => by simp only [laws_markChangeS.l0]; rw [hl, if_pos (show (i : Int) < (l.length : Int) by omega)]) ?_
    · refine Ev.bind (mt_ev (a + 3 * (i : Int)) (by omega) (by omega)) ?_
      simp only [if_pos (show 0 ≤ (i : Int) by omega), Option.bind_some, Int.toNat_natCast]
      rw [w64 (n := a + 3 * (i : Int) + 1) (by omega) (by omega)]
      refine Ev.bind (mt_ev (a + 3 * (i : Int) + 1) (by omega) (by omega)) ?_
      have r1 : ∀ (L : List S95) (v : S95), L.length = l.length → rd_T95 (L.set i v) (i : Int) = v := fun L v h => by rw [rdBChange, List.getD_eq_getElem?_getD, List.getElem?_set_self (by omega)]; rfl
      simp only [Option.bind_some, r1 _ _ hl, r1 _ _ ((List.length_set ..).trans hl), List.set_set]
      rw [w64 (n := a + 3 * (i : Int) + 1 + 1) (by omega) (by omega), w64 (n := a + 3 * (i : Int) + 1 + 1 + 1) (by omega) (by omega), inc i (by omega)]
      have e := swapped_set l (mkChangeS a l.length) i hm hi (mkChange (a + 3 * (i : Int))) (mkChangeS_get a _ i hi)
      unfold mkChange at e
      rw [show a + 3 * (i : Int) + 1 + 1 = a + 3 * (i : Int) + 2 by omega, e, show a + 3 * (i : Int) + 2 + 1 = a + 3 * ((i + 1 : Nat) : Int) by omega]
      exact hev

theorem heldChangeS_is (a : Int) (n : Nat) (ha : 0 ≤ a) (ha1 : a ≤ 16777216) (hn : n ≤ 1048576) : Ev (fun k => laws_heldChangeS.f k (mkChangeS a n) a) (a + 3 * (n : Int)) := by
  unfold laws_heldChangeS.f
  have hm := mkChangeS_length a n
  have := up (fun k i => laws_heldChangeS.l0 k (mkChangeS a n) (a + 3 * (i : Int)) (i : Int)) (a + 3 * (n : Int)) n ?_ ?_
  · simpa using this
  · refine Ev.step (f := fun _ => some (a + 3 * (n : Int))) (fun k => ?_) (Ev.now _)
    simp only [laws_heldChangeS.l0]
    rw [hm, if_neg (by omega)]
  · intro i hi hev
    refine Ev.step (fun k => by simp only [laws_heldChangeS.l0]; rw [hm, if_pos (show (i : Int) < (n : Int) by omega), if_pos (show 0 ≤ (i : Int) by omega), rdBChange, mkChangeS_getD a n i hi]) ?_
    · refine Ev.bind (mt_ev (a + 3 * (i : Int)) (by omega) (by omega)) ?_
      simp only [mkChange, if_true]
      rw [w64 (n := a + 3 * (i : Int) + 1) (by omega) (by omega)]
      refine Ev.bind (mt_ev (a + 3 * (i : Int) + 1) (by omega) (by omega)) ?_
      simp only [if_true]
      rw [w64 (n := a + 3 * (i : Int) + 1 + 1) (by omega) (by omega), show a + 3 * (i : Int) + 1 + 1 = a + 3 * (i : Int) + 2 by omega]
      simp only [bne_self_eq_false, Bool.false_eq_true, if_false]
      rw [w64 (n := a + 3 * (i : Int) + 2 + 1) (by omega) (by omega), show a + 3 * (i : Int) + 2 + 1 = a + 3 * ((i + 1 : Nat) : Int) by omega, inc i (by omega)]
      exact hev
end Go.Proofs.Ytjckchadcpaijaa.YB
