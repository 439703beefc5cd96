/- Plain facts on what the laws' own helpers do with slices of Pair: weighed, taken over, compared, marked and held; no condition but sizes. -/
import Derived.Test.YthacgkafdjnppaaYUMTxt
namespace Go.Proofs.Ythacgkafdjnppaa.YU
open Go.RowKit Go.Proofs.Ythacgkafdjnppaa.Num Go.Proofs.Ythacgkafdjnppaa.Loops Go.Proofs.Ythacgkafdjnppaa.XU Go.Proofs.YthacgkafdjnppaaW.PrintWords Go.Proofs.YthacgkafdjnppaaW.PrintLast
set_option linter.unusedSimpArgs false
theorem rdBPair (l : List S51) (i : Nat) : rd_T51 l (i : Int) = l.getD i z51 := by simp [rd_T51]
theorem eqPair_same (s : S51) : laws_eqPair.f s.f0 s.f1 s.f0 s.f1 = some true := by
  unfold laws_eqPair.f
  simp
theorem eqPairS_same (l : List S51) (hn : l.length ≤ 1048576) : Ev (fun k => laws_eqPairS.f k l l) true := by
  unfold laws_eqPairS.f
  simp only [if_true]
  refine up (fun k i => laws_eqPairS.l0 k l l (i : Int)) true l.length ?_ ?_
  · refine Ev.step (f := fun _ => some true) (fun k => ?_) (Ev.now _)
    simp only [laws_eqPairS.l0]
    rw [if_neg (by omega)]
  · intro i hi hev
    refine Ev.step (fun k => ?_) hev
    simp only [laws_eqPairS.l0]
    rw [if_pos (show (i : Int) < (l.length : Int) by omega), if_pos (show 0 ≤ (i : Int) by omega), if_pos (show (i : Int) < (l.length : Int) by omega), rdBPair, eqPair_same]
    simp only [Option.bind_some, if_true]
    rw [inc i (by omega)]
def mkPair (a : Int) : S51 := ⟨mt a, mt (a + 1)⟩
def mkPairS (a : Int) (n : Nat) : List S51 := (List.range n).map fun (j : Nat) => mkPair (a + 2 * (j : Int))
theorem mkPairS_length (a : Int) (n : Nat) : (mkPairS a n).length = n := by simp [mkPairS]
theorem mkPairS_get (a : Int) (n i : Nat) (h : i < n) : (mkPairS a n)[i]? = some (mkPair (a + 2 * (i : Int))) := by simp [mkPairS, h]
theorem mkPairS_getD (a : Int) (n i : Nat) (h : i < n) : (mkPairS a n).getD i z51 = mkPair (a + 2 * (i : Int)) := by rw [List.getD_eq_getElem?_getD, mkPairS_get a n i h]; rfl
theorem markPairS_is (l : List S51) (a : Int) (ha : 0 ≤ a) (ha1 : a ≤ 16777216) (hn : l.length ≤ 1048576) : Ev (fun k => laws_markPairS.f k l a) (a + 2 * (l.length : Int), mkPairS a l.length) := by
  unfold laws_markPairS.f
  have hm := mkPairS_length a l.length
  have := up (fun k i => laws_markPairS.l0 k (swapped l (mkPairS a l.length) i) (a + 2 * (i : Int)) (i : Int)) (a + 2 * (l.length : Int), mkPairS a l.length) l.length ?_ ?_
  · rw [swapped_zero] at this; simpa using this
  · refine Ev.step (f := fun _ => some (a + 2 * (l.length : Int), mkPairS a l.length)) (fun k => ?_) (Ev.now _)
    simp only [laws_markPairS.l0]
    rw [swapped_length _ _ _ hm, if_neg (by omega), swapped_all _ _ hm]
  · intro i hi hev
    have hl := swapped_length l (mkPairS a l.length) i hm
    refine Ev.step (fun k => by simp only [laws_markPairS.l0]; rw [hl, if_pos (show (i : Int) < (l.length : Int) by omega)]) ?_
    · refine Ev.bind (mt_ev (a + 2 * (i : Int)) (by omega) (by omega)) ?_
      simp only [if_pos (show 0 ≤ (i : Int) by omega), Option.bind_some, Int.toNat_natCast]
      rw [w64 (n := a + 2 * (i : Int) + 1) (by omega) (by omega)]
      refine Ev.bind (mt_ev (a + 2 * (i : Int) + 1) (by omega) (by omega)) ?_
      have r1 : ∀ (L : List S51) (v : S51), L.length = l.length → rd_T51 (L.set i v) (i : Int) = v := fun L v h => by rw [rdBPair, List.getD_eq_getElem?_getD, List.getElem?_set_self (by omega)]; rfl
      simp only [Option.bind_some, r1 _ _ hl, List.set_set]
      rw [w64 (n := a + 2 * (i : Int) + 1 + 1) (by omega) (by omega), inc i (by omega)]
      have e := swapped_set l (mkPairS a l.length) i hm hi (mkPair (a + 2 * (i : Int))) (mkPairS_get a _ i hi)
      unfold mkPair at e
      rw [e, show a + 2 * (i : Int) + 1 + 1 = a + 2 * ((i + 1 : Nat) : Int) by omega]
      exact hev
theorem heldPairS_is (a : Int) (n : Nat) (ha : 0 ≤ a) (ha1 : a ≤ 16777216) (hn : n ≤ 1048576) : Ev (fun k => laws_heldPairS.f k (mkPairS a n) a) (a + 2 * (n : Int)) := by
  unfold laws_heldPairS.f
  have hm := mkPairS_length a n
  have := up (fun k i => laws_heldPairS.l0 k (mkPairS a n) (a + 2 * (i : Int)) (i : Int)) (a + 2 * (n : Int)) n ?_ ?_
  · simpa using this
  · refine Ev.step (f := fun _ => some (a + 2 * (n : Int))) (fun k => ?_) (Ev.now _)
    simp only [laws_heldPairS.l0]
    rw [hm, if_neg (by omega)]
  · intro i hi hev
    refine Ev.step (fun k => by simp only [laws_heldPairS.l0]; rw [hm, if_pos (show (i : Int) < (n : Int) by omega), if_pos (show 0 ≤ (i : Int) by omega), rdBPair, mkPairS_getD a n i hi]) ?_
    · refine Ev.bind (mt_ev (a + 2 * (i : Int)) (by omega) (by omega)) ?_
      simp only [mkPair, if_true]
      rw [w64 (n := a + 2 * (i : Int) + 1) (by omega) (by omega)]
      refine Ev.bind (mt_ev (a + 2 * (i : Int) + 1) (by omega) (by omega)) ?_
      simp only [if_true]
      rw [w64 (n := a + 2 * (i : Int) + 1 + 1) (by omega) (by omega), show a + 2 * (i : Int) + 1 + 1 = a + 2 * ((i + 1 : Nat) : Int) by omega, inc i (by omega)]
      exact hev
end Go.Proofs.Ythacgkafdjnppaa.YU
