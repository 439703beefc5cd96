/- Plain facts on what the laws' own helpers do with slices of Change: weighed, taken over, compared, marked and held; no condition but sizes. -/
import Derived.Test.YthojdfndgfpkpaaYAMTxt
namespace Go.Proofs.Ythojdfndgfpkpaa.YA
open Go.RowKit Go.Proofs.Ythojdfndgfpkpaa.Num Go.Proofs.Ythojdfndgfpkpaa.Loops Go.Proofs.Ythojdfndgfpkpaa.XA Go.Proofs.YthojdfndgfpkpaaW.PrintWords Go.Proofs.YthojdfndgfpkpaaW.PrintLast
set_option linter.unusedSimpArgs false

theorem rdAChange (l : List S85) (i : Nat) : rd_T85 l (i : Int) = l.getD i z85 := by simp [rd_T85]

theorem rdBChange (l : List S88) (i : Nat) : rd_T88 l (i : Int) = l.getD i z88 := by simp [rd_T88]

/-- one of the laws' own as one of the program's -/
def ofChange (s : S85) : S88 := ⟨s.f0, s.f1, s.f2⟩
theorem toChangeS_is (l : List S85) (hn : l.length ≤ 1048576) : Ev (fun k => laws_toChangeS.f k l) (l.map ofChange) := by
  unfold laws_toChangeS.f
  simp only [if_pos (show 0 ≤ (l.length : Int) by omega), Int.toNat_natCast, if_pos (show l.length ≤ 7036874417766 by omega)]
  have hm : (l.map ofChange).length = l.length := List.length_map _
  have := up (fun k i => laws_toChangeS.l0 k l (filled (l.map ofChange) z88 i) (i : Int)) (l.map ofChange) l.length ?_ ?_
  · rw [filled_zero, hm] at this; exact this
  · refine Ev.step (f := fun _ => some (l.map ofChange)) (fun k => ?_) (Ev.now _)
    simp only [laws_toChangeS.l0]
    rw [if_neg (by omega), ← hm, filled_all]
  · intro i hi hev
    refine Ev.step (fun k => ?_) hev
    simp only [laws_toChangeS.l0]
    rw [if_pos (show (i : Int) < (l.length : Int) by omega), if_pos (show 0 ≤ (i : Int) by omega), rdAChange]
    simp only [laws_toChange.f, Option.bind_some]
    rw [filled_length _ _ _ (by omega), hm]
    simp only [if_pos (show (i : Int) < (l.length : Int) by omega), Int.toNat_natCast]
    have e := filled_set (l.map ofChange) z88 i (by omega) (ofChange (l.getD i z85)) (by rw [List.getElem?_map, getD_get l z85 i hi]; rfl)
    unfold ofChange at e ⊢
    rw [e, inc i (by omega)]

theorem szChange_is (s : S85) (a : Int) (h0 : s.f0.size ≤ 140737488351232) (h1 : s.f1.size ≤ 140737488351232) (h2 : 0 ≤ a) (h3 : a ≤ 1048576) : ∃ t, laws_szChange.f s.f0 s.f1 s.f2 a = some t ∧ t ≤ a ∧ (0 ≤ t → t = a - s.f0.size - s.f1.size) := by
  unfold laws_szChange.f
  rw [w64 (n := a - (s.f0.size : Int)) (by omega) (by omega), w64 (n := a - (s.f0.size : Int) - (s.f1.size : Int)) (by omega) (by omega)]
  by_cases c : a - (s.f0.size : Int) < 0
  · exact ⟨-1, by rw [if_pos c], by omega, by omega⟩
  · rw [if_neg c]
    by_cases c2 : a - (s.f0.size : Int) - (s.f1.size : Int) < 0
    · exact ⟨-1, by rw [if_pos c2], by omega, by omega⟩
    · exact ⟨_, by rw [if_neg c2], by omega, fun _ => rfl⟩
theorem szChangeS_l0 (l : List S85) (hn : l.length ≤ 1048576) (hw : ∀ s ∈ l, s.f0.size ≤ 140737488351232 ∧ s.f1.size ≤ 140737488351232) (d : Nat) : ∀ (i : Nat) (a : Int), i + d = l.length → 0 ≤ a → a ≤ 1048576 →
    ∃ t, Ev (fun k => laws_szChangeS.l0 k l a (i : Int)) t ∧ t ≤ a ∧ (0 ≤ t → ∀ s ∈ l.drop i, s.f0.size ≤ 1048576 ∧ s.f1.size ≤ 1048576) := by
  induction d with
  | zero =>
    intro i a hd h0 h1
    refine ⟨a, Ev.step (f := fun _ => some a) (fun k => ?_) (Ev.now _), by omega, fun _ s hs => ?_⟩
    · simp only [laws_szChangeS.l0]; rw [if_neg (by omega)]
    · rw [List.drop_of_length_le (by omega)] at hs; cases hs
  | succ d ih =>
    intro i a hd h0 h1
    have hm := hw _ (getD_mem l z85 i (by omega))
    obtain ⟨t, e, ht, ht'⟩ := szChange_is (l.getD i z85) a hm.1 hm.2 h0 h1
    by_cases c : t < 0
    · refine ⟨-1, Ev.step (f := fun _ => some (-1)) (fun k => ?_) (Ev.now _), by omega, fun h => by omega⟩
      simp only [laws_szChangeS.l0]
      rw [if_pos (by omega), if_pos (by omega), rdAChange, e]
      simp only [Option.bind_some]
      rw [if_pos c]
    · have e2 := ht' (by omega)
      obtain ⟨t', hev, hle, hall⟩ := ih (i + 1) t (by omega) (by omega) (by omega)
      refine ⟨t', Ev.step (fun k => ?_) hev, by omega, fun h s hs => ?_⟩
      · simp only [laws_szChangeS.l0]
        rw [if_pos (by omega), if_pos (by omega), rdAChange, e]
        simp only [Option.bind_some]
        rw [if_neg c, inc i (by omega)]
      · rw [drop_cons l z85 i (by omega)] at hs
        rcases List.mem_cons.1 hs with rfl | hs
        · exact ⟨by omega, by omega⟩
        · exact hall h s hs
/-- what is weighed is small, or the weight is below nothing -/
theorem szChangeS_is (l : List S85) (hn : l.length ≤ 140737488351232) (hw : ∀ s ∈ l, s.f0.size ≤ 140737488351232 ∧ s.f1.size ≤ 140737488351232) (a : Int) (h0 : 0 ≤ a) (h1 : a ≤ 1048576) :
    ∃ t, Ev (fun k => laws_szChangeS.f k l a) t ∧ t ≤ a ∧ (0 ≤ t → l.length ≤ 1048576 ∧ ∀ s ∈ l, s.f0.size ≤ 1048576 ∧ s.f1.size ≤ 1048576) := by
  unfold laws_szChangeS.f
  rw [w64 (by omega) (by omega)]
  by_cases c2 : a - (l.length : Int) < 0
  · exact ⟨-1, by simp only [if_pos c2]; exact Ev.now _, by omega, fun h => by omega⟩
  · simp only [if_neg c2]
    obtain ⟨t', hev, hle, hall⟩ := szChangeS_l0 l (by omega) hw l.length 0 (a - l.length) (by omega) (by omega) (by omega)
    exact ⟨t', hev, by omega, fun h => ⟨by omega, fun s hs => hall h s (by simpa using hs)⟩⟩

theorem eqChange_same (s : S88) : laws_eqChange.f s.f0 s.f1 s.f2 s.f0 s.f1 s.f2 = some true := by
  unfold laws_eqChange.f
  simp
theorem eqChangeS_same (l : List S88) (hn : l.length ≤ 1048576) : Ev (fun k => laws_eqChangeS.f k l l) true := by
  unfold laws_eqChangeS.f
  simp only [if_true]
  refine up (fun k i => laws_eqChangeS.l0 k l l (i : Int)) true l.length ?_ ?_
  · refine Ev.step (f := fun _ => some true) (fun k => ?_) (Ev.now _)
    simp only [laws_eqChangeS.l0]
    rw [if_neg (by omega)]
  · intro i hi hev
    refine Ev.step (fun k => ?_) hev
    simp only [laws_eqChangeS.l0]
    rw [if_pos (show (i : Int) < (l.length : Int) by omega), if_pos (show 0 ≤ (i : Int) by omega), if_pos (show (i : Int) < (l.length : Int) by omega), rdBChange, eqChange_same]
    simp only [Option.bind_some, if_true]
    rw [inc i (by omega)]

/-- a marked one -/
def mkChange (a : Int) : S88 := ⟨mt a, mt (a + 1), ((a + 2).tmod 3 == 0)⟩
def mkChangeS (a : Int) (n : Nat) : List S88 := (List.range n).map fun (j : Nat) => mkChange (a + 3 * (j : Int))
theorem mkChangeS_length (a : Int) (n : Nat) : (mkChangeS a n).length = n := by simp [mkChangeS]
theorem mkChangeS_get (a : Int) (n i : Nat) (h : i < n) : (mkChangeS a n)[i]? = some (mkChange (a + 3 * (i : Int))) := by simp [mkChangeS, h]
theorem mkChangeS_getD (a : Int) (n i : Nat) (h : i < n) : (mkChangeS a n).getD i z88 = mkChange (a + 3 * (i : Int)) := by rw [List.getD_eq_getElem?_getD, mkChangeS_get a n i h]; rfl
theorem markChangeS_is (l : List S88) (a : Int) (ha : 0 ≤ a) (ha1 : a ≤ 16777216) (hn : l.length ≤ 1048576) : Ev (fun k => laws_markChangeS.f k l a) (a + 3 * (l.length : Int), mkChangeS a l.length) := by
  unfold laws_markChangeS.f
  have hm := mkChangeS_length a l.length
  have := up (fun k i => laws_markChangeS.l0 k (swapped l (mkChangeS a l.length) i) (a + 3 * (i : Int)) (i : Int)) (a + 3 * (l.length : Int), mkChangeS a l.length) l.length ?_ ?_
  · rw [swapped_zero] at this; simpa using this
  · refine Ev.step (f := fun _ => some (a + 3 * (l.length : Int), mkChangeS a l.length)) (fun k => ?_) (Ev.now _)
    simp only [laws_markChangeS.l0]
    rw [swapped_length _ _ _ hm, if_neg (by omega), swapped_all _ _ hm]
  · intro i hi hev
    have hl := swapped_length l (mkChangeS a l.length) i hm
    refine Ev.step (fun k => by simp only [laws_markChangeS.l0]; rw [hl, if_pos (show (i : Int) < (l.length : Int) by omega)]) ?_
    · refine Ev.bind (mt_ev (a + 3 * (i : Int)) (by omega) (by omega)) ?_
      simp only [if_pos (show 0 ≤ (i : Int) by omega), Option.bind_some, Int.toNat_natCast]
      rw [w64 (n := a + 3 * (i : Int) + 1) (by omega) (by omega)]
      refine Ev.bind (mt_ev (a + 3 * (i : Int) + 1) (by omega) (by omega)) ?_
      have r1 : ∀ (L : List S88) (v : S88), L.length = l.length → rd_T88 (L.set i v) (i : Int) = v := fun L v h => by rw [rdBChange, List.getD_eq_getElem?_getD, List.getElem?_set_self (by omega)]; rfl
      simp only [Option.bind_some, r1 _ _ hl, r1 _ _ ((List.length_set ..).trans hl), List.set_set]
      rw [w64 (n := a + 3 * (i : Int) + 1 + 1) (by omega) (by omega), w64 (n := a + 3 * (i : Int) + 1 + 1 + 1) (by omega) (by omega), inc i (by omega)]
      have e := swapped_set l (mkChangeS a l.length) i hm hi (mkChange (a + 3 * (i : Int))) (mkChangeS_get a _ i hi)
      unfold mkChange at e
      rw [show a + 3 * (i : Int) + 1 + 1 = a + 3 * (i : Int) + 2 by omega, e, show a + 3 * (i : Int) + 2 + 1 = a + 3 * ((i + 1 : Nat) : Int) by omega]
      exact hev
end Go.Proofs.Ythojdfndgfpkpaa.YA
