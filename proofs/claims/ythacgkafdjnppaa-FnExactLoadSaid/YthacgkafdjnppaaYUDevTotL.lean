/- Plain facts on devices: what the laws' weight says of all sectors together, and that a mark gives a number. -/
import Derived.Test.YthacgkafdjnppaaYUDevEq
import Derived.Test.YthacgkafdjnppaaYUMarkM
namespace Go.Proofs.Ythacgkafdjnppaa.YU
open Go.RowKit Go.Proofs.Ythacgkafdjnppaa.Num Go.Proofs.Ythacgkafdjnppaa.Loops Go.Proofs.Ythacgkafdjnppaa.XU Go.Proofs.YthacgkafdjnppaaW.PrintWords Go.Proofs.YthacgkafdjnppaaW.PrintLast
def totS : List S58 → Nat
  | [] => 0
  | s :: r => s.f1.length + totS r
def totB : List S65 → Nat
  | [] => 0
  | s :: r => s.f1.length + 1 + totB r
theorem totB_map (l : List S58) : totB (l.map secOf) = totS l + l.length := by
  induction l with
  | nil => rfl
  | cons s r ih =>
    rw [List.map_cons, totB, totS, ih, List.length_cons]
    show s.f1.length + 1 + _ = _
    omega
theorem tot_mem {l : List S58} {s : S58} (h : s ∈ l) : s.f1.length ≤ totS l := by
  induction l with
  | nil => cases h
  | cons a r ih =>
    rw [totS]
    rcases List.mem_cons.1 h with rfl | h
    · omega
    · have := ih h; omega
theorem szSectorS_tot (l : List S58) (hn : l.length ≤ 1048576) (hw : ∀ s ∈ l, s.f1.length ≤ 140737488351232) (d : Nat) : ∀ (i : Nat) (a : Int), i + d = l.length → 0 ≤ a → a ≤ 1048576 →
    ∃ t, Ev (fun k => laws_szSectorS.l0 k l a (i : Int)) t ∧ t ≤ 1048576 ∧ (0 ≤ t → (totS (l.drop i) : Int) ≤ a) := by
  induction d with
  | zero =>
    intro i a hd h0 h1
    refine ⟨a, Ev.step (f := fun _ => some a) (fun k => ?_) (Ev.now _), h1, fun _ => ?_⟩
    · simp only [laws_szSectorS.l0]; rw [if_neg (by omega)]
    · rw [List.drop_of_length_le (by omega)]; exact h0
  | succ d ih =>
    intro i a hd h0 h1
    obtain ⟨t, e, ht, ht'⟩ := szSector_is (l.getD i z58) a (hw _ (getD_mem _ _ _ (by omega))) (by omega) h1
    by_cases c : t < 0
    · refine ⟨-1, Ev.step (f := fun _ => some (-1)) (fun k => ?_) (Ev.now _), by omega, fun h => by omega⟩
      simp only [laws_szSectorS.l0]
      rw [if_pos (by omega), if_pos (by omega), rdA, e]
      simp only [Option.bind_some]
      rw [if_pos c]
    · obtain ⟨e1, e2⟩ : t = a - (l.getD i z58).f1.length ∧ 0 ≤ t := by omega
      obtain ⟨t', hev, hle, hall⟩ := ih (i + 1) t (by omega) (by omega) (by omega)
      refine ⟨t', Ev.step (fun k => ?_) hev, hle, fun h => ?_⟩
      · simp only [laws_szSectorS.l0]
        rw [if_pos (by omega), if_pos (by omega), rdA, e]
        simp only [Option.bind_some]
        rw [if_neg c, inc i (by omega)]
      · rw [drop_cons l z58 i (by omega), totS]
        have := hall h
        omega
theorem szDevice_tot (h : List Int) (l : List S58) (h1 : h.length ≤ 140737488351232) (h2 : l.length ≤ 140737488351232) (hw : ∀ s ∈ l, s.f1.length ≤ 140737488351232) :
    ∃ t, Ev (fun k => laws_szDevice.f k h l 1048576) t ∧ (0 ≤ t → h.length ≤ 1048576 ∧ l.length ≤ 1048576 ∧ totS l ≤ 1048576) := by
  obtain ⟨t, e, ht, ht'⟩ := szByteS_is h 1048576 h1 (by omega) (by omega)
  unfold laws_szDevice.f
  simp only [e, Option.bind_some]
  by_cases c : t < 0
  · exact ⟨-1, by simp only [if_pos c]; exact Ev.now _, fun h => by omega⟩
  · simp only [if_neg c]
    obtain ⟨e1, e2⟩ : t = 1048576 - h.length ∧ 0 ≤ t := by omega
    by_cases c2 : t - (l.length : Int) < 0
    · refine ⟨-1, Ev.bind (a := -1) ?_ (by simp only [if_pos (show (-1 : Int) < 0 by omega)]; exact Ev.now _), fun h => by omega⟩
      unfold laws_szSectorS.f
      rw [w64 (by omega) (by omega)]
      simp only [if_pos c2]; exact Ev.now _
    · obtain ⟨t', hev, hle, hall⟩ := szSectorS_tot l (by omega) hw l.length 0 (t - l.length) (by omega) (by omega) (by omega)
      have hs : Ev (fun k => laws_szSectorS.f k l t) t' := by
        unfold laws_szSectorS.f
        rw [w64 (by omega) (by omega)]
        simp only [if_neg c2]; exact hev
      by_cases c3 : t' < 0
      · exact ⟨-1, Ev.bind hs (by simp only [if_pos c3]; exact Ev.now _), fun h => by omega⟩
      · refine ⟨t', Ev.bind hs (by simp only [if_neg c3]; exact Ev.now _), fun h => ⟨by omega, by omega, ?_⟩⟩
        have := hall h
        rw [List.drop_zero] at this
        omega
theorem markSectorS_l0 (n : Nat) (hn : n ≤ 1048576) (d : Nat) : ∀ (i : Nat) (xs : List S65) (a : Int), xs.length = n → i + d = n → 0 ≤ a → a + totB (xs.drop i) < 1099511627776 → ∃ ys, Ev (fun k => laws_markSectorS.l0 k xs a (i : Int)) (a + totB (xs.drop i), ys) := by
  induction d with
  | zero =>
    intro i xs a hl hd h0 h1
    refine ⟨xs, Ev.step (f := fun _ => some (a + totB (xs.drop i), xs)) (fun k => ?_) (Ev.now _)⟩
    simp only [laws_markSectorS.l0]
    rw [if_neg (by omega), List.drop_of_length_le (by omega)]
    simp [totB]
  | succ d ih =>
    intro i xs a hl hd h0 h1
    have e0 := drop_cons xs z65 i (by omega)
    rw [e0, totB] at h1
    have hm := markByteS (xs.getD i z65).f1 (a + 1) (by omega) (by omega) (by omega)
    have e1 : ∀ y, (xs.set i y).drop (i + 1) = xs.drop (i + 1) := fun y => List.drop_set_of_lt (by omega)
    obtain ⟨ys, hy⟩ := ih (i + 1) (xs.set i ⟨a, markL (a + 1) (xs.getD i z65).f1.length⟩) (a + 1 + (xs.getD i z65).f1.length) (by rw [List.length_set]; exact hl) (by omega) (by omega) (by rw [e1]; omega)
    rw [e1] at hy
    refine ⟨ys, ?_⟩
    rw [e0, totB]
    refine Ev.eq (?_ : Ev _ (a + 1 + (xs.getD i z65).f1.length + totB (xs.drop (i + 1)), ys)) (by congr 1; omega)
    refine Ev.step (fun k => by simp only [laws_markSectorS.l0]; rw [if_pos (show (i : Int) < (xs.length : Int) by omega), if_pos (show 0 ≤ (i : Int) by omega), Int.toNat_natCast, w64 (n := a + 1) (by omega) (by omega)]) ?_
    refine Ev.bind hm ?_
    rw [inc i (by omega)]
    exact hy
theorem markDevice_is (h : List Int) (l : List S65) (h1 : h.length ≤ 1048576) (hn : l.length ≤ 1048576) (ht : totB l ≤ 4194304) : ∃ t hs ls, Ev (fun k => laws_markDevice.f k h l 1) (t, hs, ls) ∧ 0 ≤ t := by
  obtain ⟨ys, hy⟩ := markSectorS_l0 l.length hn l.length 0 l (1 + h.length) rfl (by omega) (by omega) (by rw [List.drop_zero]; omega)
  refine ⟨1 + (h.length : Int) + totB (l.drop 0), markL 1 h.length, ys, ?_, by omega⟩
  unfold laws_markDevice.f
  refine Ev.bind (markByteS h 1 (by omega) (by omega) (by omega)) ?_
  refine Ev.bind (a := (1 + (h.length : Int) + totB (l.drop 0), ys)) ?_ (Ev.now _)
  exact hy
end Go.Proofs.Ythacgkafdjnppaa.YU
