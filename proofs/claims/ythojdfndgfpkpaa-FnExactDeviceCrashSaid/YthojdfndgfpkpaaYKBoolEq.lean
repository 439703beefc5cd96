/- Plain facts on what the laws' own helpers do with rows of truth values. -/
import Derived.Test.YthojdfndgfpkpaaYKCommon
import Derived.Test.YthojdfndgfpkpaaYLoops
namespace Go.Proofs.Ythojdfndgfpkpaa.YK
open Go.RowKit Go.Proofs.Ythojdfndgfpkpaa.Num Go.Proofs.Ythojdfndgfpkpaa.Loops Go.Proofs.Ythojdfndgfpkpaa.XK Go.Proofs.YthojdfndgfpkpaaW.PrintWords Go.Proofs.YthojdfndgfpkpaaW.PrintLast

theorem rdb (l : List Bool) (i : Nat) : rdOf false l (i : Int) = l.getD i false := by simp [rdOf]
theorem toBoolS_is (l : List Bool) (hn : l.length ≤ 1048576) : Ev (fun k => laws_toBoolS.f k l) l := by
  unfold laws_toBoolS.f
  simp only [if_pos (show 0 ≤ (l.length : Int) by omega), Int.toNat_natCast, if_pos (show l.length ≤ 281474976710656 by omega)]
  have := up (fun k i => laws_toBoolS.l0 k l (filled l false i) (i : Int)) l l.length ?_ ?_
  · rw [filled_zero] at this; exact this
  · refine Ev.step (f := fun _ => some l) (fun k => ?_) (Ev.now _)
    simp only [laws_toBoolS.l0]
    rw [if_neg (by omega), filled_all]
  · intro i hi hev
    refine Ev.step (fun k => ?_) hev
    simp only [laws_toBoolS.l0]
    rw [if_pos (show (i : Int) < (l.length : Int) by omega), if_pos (show 0 ≤ (i : Int) by omega), if_pos (by rw [filled_length _ _ _ (by omega)]; omega), rdb, Int.toNat_natCast, filled_set _ _ i hi _ (getD_get l false i hi), inc i (by omega)]
theorem eqBoolS_same (l : List Bool) (hn : l.length ≤ 1048576) : Ev (fun k => laws_eqBoolS.f k l l) true := by
  unfold laws_eqBoolS.f
  simp only [if_true]
  refine up (fun k i => laws_eqBoolS.l0 k l l (i : Int)) true l.length ?_ ?_
  · refine Ev.step (f := fun _ => some true) (fun k => ?_) (Ev.now _)
    simp only [laws_eqBoolS.l0]
    rw [if_neg (by omega)]
  · intro i hi hev
    refine Ev.step (fun k => ?_) hev
    simp only [laws_eqBoolS.l0]
    rw [if_pos (show (i : Int) < (l.length : Int) by omega), if_pos (show 0 ≤ (i : Int) by omega), if_pos (show (i : Int) < (l.length : Int) by omega), if_neg (by simp), inc i (by omega)]
theorem markBoolS_l0 (n : Nat) (hn : n ≤ 1048576) (d : Nat) : ∀ (i : Nat) (xs : List Bool) (a : Int), xs.length = n → i + d = n → 0 ≤ a → a + d < 1099511627776 → ∃ ys, Ev (fun k => laws_markBoolS.l0 k xs a (i : Int)) (a + d, ys) := by
  induction d with
  | zero =>
    intro i xs a hl hd h0 h1
    refine ⟨xs, Ev.step (f := fun _ => some (a, xs)) (fun k => ?_) ?_⟩
    · simp only [laws_markBoolS.l0]
      rw [if_neg (by omega)]
    · exact Ev.eq (Ev.now _) (by simp)
  | succ d ih =>
    intro i xs a hl hd h0 h1
    obtain ⟨ys, hy⟩ := ih (i + 1) (xs.set i ((Int.tmod a 3) == 0)) (a + 1) (by rw [List.length_set]; exact hl) (by omega) (by omega) (by omega)
    refine ⟨ys, Ev.step (fun k => ?_) (Ev.eq hy (by congr 1; omega))⟩
    simp only [laws_markBoolS.l0]
    rw [if_pos (show (i : Int) < (xs.length : Int) by omega), if_pos (show 0 ≤ (i : Int) by omega), Int.toNat_natCast, w64 (n := a + 1) (by omega) (by omega), inc i (by omega)]
theorem markBoolS_is (l : List Bool) (a : Int) (hn : l.length ≤ 1048576) (h0 : 0 ≤ a) (h1 : a < 1000000000000) : ∃ t ys, Ev (fun k => laws_markBoolS.f k l a) (t, ys) ∧ 0 ≤ t := by
  obtain ⟨ys, hy⟩ := markBoolS_l0 l.length hn l.length 0 l a rfl (by omega) h0 (by omega)
  exact ⟨a + l.length, ys, hy, by omega⟩
end Go.Proofs.Ythojdfndgfpkpaa.YK
