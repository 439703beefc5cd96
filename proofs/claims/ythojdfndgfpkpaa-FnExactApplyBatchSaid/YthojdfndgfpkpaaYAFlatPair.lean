/- Plain facts on what the laws' own helpers do with slices of Pair: weighed, taken over, compared, marked and held; no condition but sizes. -/
import Derived.Test.YthojdfndgfpkpaaYAMTxt
namespace Go.Proofs.Ythojdfndgfpkpaa.YA
open Go.RowKit Go.Proofs.Ythojdfndgfpkpaa.Num Go.Proofs.Ythojdfndgfpkpaa.Loops Go.Proofs.Ythojdfndgfpkpaa.XA Go.Proofs.YthojdfndgfpkpaaW.PrintWords Go.Proofs.YthojdfndgfpkpaaW.PrintLast
set_option linter.unusedSimpArgs false

theorem rdAPair (l : List S72) (i : Nat) : rd_T72 l (i : Int) = l.getD i z72 := by simp [rd_T72]

theorem rdBPair (l : List S74) (i : Nat) : rd_T74 l (i : Int) = l.getD i z74 := by simp [rd_T74]

/-- one of the laws' own as one of the program's -/
def ofPair (s : S72) : S74 := ⟨s.f0, s.f1⟩
theorem toPairS_is (l : List S72) (hn : l.length ≤ 1048576) : Ev (fun k => laws_toPairS.f k l) (l.map ofPair) := by
  unfold laws_toPairS.f
  simp only [if_pos (show 0 ≤ (l.length : Int) by omega), Int.toNat_natCast, if_pos (show l.length ≤ 8796093022208 by omega)]
  have hm : (l.map ofPair).length = l.length := List.length_map _
  have := up (fun k i => laws_toPairS.l0 k l (filled (l.map ofPair) z74 i) (i : Int)) (l.map ofPair) l.length ?_ ?_
  · rw [filled_zero, hm] at this; exact this
  · refine Ev.step (f := fun _ => some (l.map ofPair)) (fun k => ?_) (Ev.now _)
    simp only [laws_toPairS.l0]
    rw [if_neg (by omega), ← hm, filled_all]
  · intro i hi hev
    refine Ev.step (fun k => ?_) hev
    simp only [laws_toPairS.l0]
    rw [if_pos (show (i : Int) < (l.length : Int) by omega), if_pos (show 0 ≤ (i : Int) by omega), rdAPair]
    simp only [laws_toPair.f, Option.bind_some]
    rw [filled_length _ _ _ (by omega), hm]
    simp only [if_pos (show (i : Int) < (l.length : Int) by omega), Int.toNat_natCast]
    have e := filled_set (l.map ofPair) z74 i (by omega) (ofPair (l.getD i z72)) (by rw [List.getElem?_map, getD_get l z72 i hi]; rfl)
    unfold ofPair at e ⊢
    rw [e, inc i (by omega)]

theorem szPair_is (s : S72) (a : Int) (h0 : s.f0.size ≤ 140737488351232) (h1 : s.f1.size ≤ 140737488351232) (h2 : 0 ≤ a) (h3 : a ≤ 1048576) : ∃ t, laws_szPair.f s.f0 s.f1 a = some t ∧ t ≤ a ∧ (0 ≤ t → t = a - s.f0.size - s.f1.size) := by
  unfold laws_szPair.f
  rw [w64 (n := a - (s.f0.size : Int)) (by omega) (by omega), w64 (n := a - (s.f0.size : Int) - (s.f1.size : Int)) (by omega) (by omega)]
  by_cases c : a - (s.f0.size : Int) < 0
  · exact ⟨-1, by rw [if_pos c], by omega, by omega⟩
  · rw [if_neg c]
    by_cases c2 : a - (s.f0.size : Int) - (s.f1.size : Int) < 0
    · exact ⟨-1, by rw [if_pos c2], by omega, by omega⟩
    · exact ⟨_, by rw [if_neg c2], by omega, fun _ => rfl⟩
theorem szPairS_l0 (l : List S72) (hn : l.length ≤ 1048576) (hw : ∀ s ∈ l, s.f0.size ≤ 140737488351232 ∧ s.f1.size ≤ 140737488351232) (d : Nat) : ∀ (i : Nat) (a : Int), i + d = l.length → 0 ≤ a → a ≤ 1048576 →
    ∃ t, Ev (fun k => laws_szPairS.l0 k l a (i : Int)) t ∧ t ≤ a ∧ (0 ≤ t → ∀ s ∈ l.drop i, s.f0.size ≤ 1048576 ∧ s.f1.size ≤ 1048576) := by
  induction d with
  | zero =>
    intro i a hd h0 h1
    refine ⟨a, Ev.step (f := fun _ => some a) (fun k => ?_) (Ev.now _), by omega, fun _ s hs => ?_⟩
    · simp only [laws_szPairS.l0]; rw [if_neg (by omega)]
    · rw [List.drop_of_length_le (by omega)] at hs; cases hs
  | succ d ih =>
    intro i a hd h0 h1
    have hm := hw _ (getD_mem l z72 i (by omega))
    obtain ⟨t, e, ht, ht'⟩ := szPair_is (l.getD i z72) a hm.1 hm.2 h0 h1
    by_cases c : t < 0
    · refine ⟨-1, Ev.step (f := fun _ => some (-1)) (fun k => ?_) (Ev.now _), by omega, fun h => by omega⟩
      simp only [laws_szPairS.l0]
      rw [if_pos (by omega), if_pos (by omega), rdAPair, e]
      simp only [Option.bind_some]
      rw [if_pos c]
    · have e2 := ht' (by omega)
      obtain ⟨t', hev, hle, hall⟩ := ih (i + 1) t (by omega) (by omega) (by omega)
      refine ⟨t', Ev.step (fun k => ?_) hev, by omega, fun h s hs => ?_⟩
      · simp only [laws_szPairS.l0]
        rw [if_pos (by omega), if_pos (by omega), rdAPair, e]
        simp only [Option.bind_some]
        rw [if_neg c, inc i (by omega)]
      · rw [drop_cons l z72 i (by omega)] at hs
        rcases List.mem_cons.1 hs with rfl | hs
        · exact ⟨by omega, by omega⟩
        · exact hall h s hs
/-- what is weighed is small, or the weight is below nothing -/
theorem szPairS_is (l : List S72) (hn : l.length ≤ 140737488351232) (hw : ∀ s ∈ l, s.f0.size ≤ 140737488351232 ∧ s.f1.size ≤ 140737488351232) (a : Int) (h0 : 0 ≤ a) (h1 : a ≤ 1048576) :
    ∃ t, Ev (fun k => laws_szPairS.f k l a) t ∧ t ≤ a ∧ (0 ≤ t → l.length ≤ 1048576 ∧ ∀ s ∈ l, s.f0.size ≤ 1048576 ∧ s.f1.size ≤ 1048576) := by
  unfold laws_szPairS.f
  rw [w64 (by omega) (by omega)]
  by_cases c2 : a - (l.length : Int) < 0
  · exact ⟨-1, by simp only [if_pos c2]; exact Ev.now _, by omega, fun h => by omega⟩
  · simp only [if_neg c2]
    obtain ⟨t', hev, hle, hall⟩ := szPairS_l0 l (by omega) hw l.length 0 (a - l.length) (by omega) (by omega) (by omega)
    exact ⟨t', hev, by omega, fun h => ⟨by omega, fun s hs => hall h s (by simpa using hs)⟩⟩

theorem eqPair_same (s : S74) : laws_eqPair.f s.f0 s.f1 s.f0 s.f1 = some true := by
  unfold laws_eqPair.f
  simp
theorem eqPairS_same (l : List S74) (hn : l.length ≤ 1048576) : Ev (fun k => laws_eqPairS.f k l l) true := by
  unfold laws_eqPairS.f
  simp only [if_true]
  refine up (fun k i => laws_eqPairS.l0 k l l (i : Int)) true l.length ?_ ?_
  · refine Ev.step (f := fun _ => some true) (fun k => ?_) (Ev.now _)
    simp only [laws_eqPairS.l0]
    rw [if_neg (by omega)]
  · intro i hi hev
    refine Ev.step (fun k => ?_) hev
    simp only [laws_eqPairS.l0]
    rw [if_pos (show (i : Int) < (l.length : Int) by omega), if_pos (show 0 ≤ (i : Int) by omega), if_pos (show (i : Int) < (l.length : Int) by omega), rdBPair, eqPair_same]
    simp only [Option.bind_some, if_true]
    rw [inc i (by omega)]

/-- a marked one -/
def mkPair (a : Int) : S74 := ⟨mt a, mt (a + 1)⟩
def mkPairS (a : Int) (n : Nat) : List S74 := (List.range n).map fun (j : Nat) => mkPair (a + 2 * (j : Int))
theorem mkPairS_length (a : Int) (n : Nat) : (mkPairS a n).length = n := by simp [mkPairS]
theorem mkPairS_get (a : Int) (n i : Nat) (h : i < n) : (mkPairS a n)[i]? = some (mkPair (a + 2 * (i : Int))) := by simp [mkPairS, h]
theorem mkPairS_getD (a : Int) (n i : Nat) (h : i < n) : (mkPairS a n).getD i z74 = mkPair (a + 2 * (i : Int)) := by rw [List.getD_eq_getElem?_getD, mkPairS_get a n i h]; rfl
theorem markPairS_is (l : List S74) (a : Int) (ha : 0 ≤ a) (ha1 : a ≤ 16777216) (hn : l.length ≤ 1048576) : Ev (fun k => laws_markPairS.f k l a) (a + 2 * (l.length : Int), mkPairS a l.length) := by
  unfold laws_markPairS.f
  have hm := mkPairS_length a l.length
  have := up (fun k i => laws_markPairS.l0 k (swapped l (mkPairS a l.length) i) (a + 2 * (i : Int)) (i : Int)) (a + 2 * (l.length : Int), mkPairS a l.length) l.length ?_ ?_
  · rw [swapped_zero] at this; simpa using this
  · refine Ev.step (f := fun _ => some (a + 2 * (l.length : Int), mkPairS a l.length)) (fun k => ?_) (Ev.now _)
    simp only [laws_markPairS.l0]
    rw [swapped_length _ _ _ hm, if_neg (by omega), swapped_all _ _ hm]
  · intro i hi hev
    have hl := swapped_length l (mkPairS a l.length) i hm
    refine Ev.step (fun k => by simp only [laws_markPairS.l0]; rw [hl, if_pos (show (i : Int) < (l.length : Int) by omega)]) ?_
    · refine Ev.bind (mt_ev (a + 2 * (i : Int)) (by omega) (by omega)) ?_
      simp only [if_pos (show 0 ≤ (i : Int) by omega), Option.bind_some, Int.toNat_natCast]
      rw [w64 (n := a + 2 * (i : Int) + 1) (by omega) (by omega)]
      refine Ev.bind (mt_ev (a + 2 * (i : Int) + 1) (by omega) (by omega)) ?_
      have r1 : ∀ (L : List S74) (v : S74), L.length = l.length → rd_T74 (L.set i v) (i : Int) = v := fun L v h => by rw [rdBPair, List.getD_eq_getElem?_getD, List.getElem?_set_self (by omega)]; rfl
      simp only [Option.bind_some, r1 _ _ hl, List.set_set]
      rw [w64 (n := a + 2 * (i : Int) + 1 + 1) (by omega) (by omega), inc i (by omega)]
      have e := swapped_set l (mkPairS a l.length) i hm hi (mkPair (a + 2 * (i : Int))) (mkPairS_get a _ i hi)
      unfold mkPair at e
      rw [e, show a + 2 * (i : Int) + 1 + 1 = a + 2 * ((i + 1 : Nat) : Int) by omega]
      exact hev

theorem heldPairS_is (a : Int) (n : Nat) (ha : 0 ≤ a) (ha1 : a ≤ 16777216) (hn : n ≤ 1048576) : Ev (fun k => laws_heldPairS.f k (mkPairS a n) a) (a + 2 * (n : Int)) := by
  unfold laws_heldPairS.f
  have hm := mkPairS_length a n
  have := up (fun k i => laws_heldPairS.l0 k (mkPairS a n) (a + 2 * (i : Int)) (i : Int)) (a + 2 * (n : Int)) n ?_ ?_
  · simpa using this
  · refine Ev.step (f := fun _ => some (a + 2 * (n : Int))) (fun k => ?_) (Ev.now _)
    simp only [laws_heldPairS.l0]
    rw [hm, if_neg (by omega)]
  · intro i hi hev
    refine Ev.step (fun k => by simp only [laws_heldPairS.l0]; rw [hm, if_pos (show (i : Int) < (n : Int) by omega), if_pos (show 0 ≤ (i : Int) by omega), rdBPair, mkPairS_getD a n i hi]) ?_
    · refine Ev.bind (mt_ev (a + 2 * (i : Int)) (by omega) (by omega)) ?_
      simp only [mkPair, if_true]
      rw [w64 (n := a + 2 * (i : Int) + 1) (by omega) (by omega)]
      refine Ev.bind (mt_ev (a + 2 * (i : Int) + 1) (by omega) (by omega)) ?_
      simp only [if_true]
      rw [w64 (n := a + 2 * (i : Int) + 1 + 1) (by omega) (by omega), show a + 2 * (i : Int) + 1 + 1 = a + 2 * ((i + 1 : Nat) : Int) by omega, inc i (by omega)]
      exact hev
end Go.Proofs.Ythojdfndgfpkpaa.YA
