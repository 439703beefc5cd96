/- Plain facts on what the laws' own helpers do with devices: weighed, taken over, compared; no condition but sizes. -/
import Derived.Test.YthacgkafdjnppaaYUCommon
import Derived.Test.YthacgkafdjnppaaYLoops
namespace Go.Proofs.Ythacgkafdjnppaa.YU
open Go.RowKit Go.Proofs.Ythacgkafdjnppaa.Num Go.Proofs.Ythacgkafdjnppaa.Loops Go.Proofs.Ythacgkafdjnppaa.XU Go.Proofs.YthacgkafdjnppaaW.PrintWords Go.Proofs.YthacgkafdjnppaaW.PrintLast
def secOf (a : S58) : S65 := ⟨a.f0, a.f1⟩
theorem rdA (l : List S58) (i : Nat) : rd_T58 l (i : Int) = l.getD i z58 := by simp [rd_T58]
theorem rdB (l : List S65) (i : Nat) : rd_T65 l (i : Int) = l.getD i z65 := by simp [rd_T65]
theorem szByteS_is (l : List Int) (a : Int) (h1 : l.length ≤ 140737488351232) (h2 : -1 ≤ a) (h3 : a ≤ 1048576) : ∃ t, laws_szByteS.f l a = some t ∧ (t < 0 ∨ (t = a - l.length ∧ 0 ≤ t)) ∧ -1 ≤ t := by
  unfold laws_szByteS.f
  rw [w64 (n := a - (l.length : Int)) (by omega) (by omega)]
  by_cases c : a - (l.length : Int) < 0
  · exact ⟨-1, by rw [if_pos c], Or.inl (by omega), by omega⟩
  · exact ⟨a - l.length, by rw [if_neg c], Or.inr ⟨rfl, by omega⟩, by omega⟩
theorem szSector_is (s : S58) (a : Int) (h1 : s.f1.length ≤ 140737488351232) (h2 : -1 ≤ a) (h3 : a ≤ 1048576) : ∃ t, laws_szSector.f s.f0 s.f1 a = some t ∧ (t < 0 ∨ (t = a - s.f1.length ∧ 0 ≤ t)) ∧ -1 ≤ t := by
  obtain ⟨t, e, h, h'⟩ := szByteS_is s.f1 a h1 h2 h3
  unfold laws_szSector.f
  rw [e]
  simp only [Option.bind_some]
  by_cases c : t < 0
  · exact ⟨-1, by rw [if_pos c], Or.inl (by omega), by omega⟩
  · exact ⟨t, by rw [if_neg c], h, h'⟩
theorem toSector_is (s : S58) (h : s.f1.length ≤ 1048576) : Ev (fun k => laws_toSector.f k s.f0 s.f1) (s.f0, s.f1) := by
  unfold laws_toSector.f
  exact Ev.bind (toByteS s.f1 (by omega)) (Ev.now _)
theorem toSectorS_is (l : List S58) (hn : l.length ≤ 1048576) (hw : ∀ s ∈ l, s.f1.length ≤ 1048576) : Ev (fun k => laws_toSectorS.f k l) (l.map secOf) := by
  unfold laws_toSectorS.f
  simp only [if_pos (show 0 ≤ (l.length : Int) by omega), Int.toNat_natCast, if_pos (show l.length ≤ 8796093022208 by omega)]
  have hm : (l.map secOf).length = l.length := List.length_map _
  have := up (fun k i => laws_toSectorS.l0 k l (filled (l.map secOf) z65 i) (i : Int)) (l.map secOf) l.length ?_ ?_
  · rw [filled_zero, hm] at this; exact this
  · refine Ev.step (f := fun _ => some (l.map secOf)) (fun k => ?_) (Ev.now _)
    simp only [laws_toSectorS.l0]
    rw [if_neg (by omega), ← hm, filled_all]
  · intro i hi hev
    refine Ev.step (fun k => by simp only [laws_toSectorS.l0]; rw [if_pos (show (i : Int) < (l.length : Int) by omega), if_pos (show 0 ≤ (i : Int) by omega), rdA]) ?_
    refine Ev.bind (toSector_is _ (hw _ (getD_mem l z58 i hi))) ?_
    rw [filled_length _ _ _ (by omega), hm]
    simp only [if_pos (show (i : Int) < (l.length : Int) by omega), Int.toNat_natCast]
    rw [show (⟨(l.getD i z58).f0, (l.getD i z58).f1⟩ : S65) = secOf (l.getD i z58) from rfl, filled_set _ _ i (by omega) (secOf (l.getD i z58)) (by rw [List.getElem?_map, getD_get l z58 i hi]; rfl), inc i (by omega)]
    exact hev
theorem toDevice_is (h : List Int) (l : List S58) (h1 : h.length ≤ 1048576) (hn : l.length ≤ 1048576) (hw : ∀ s ∈ l, s.f1.length ≤ 1048576) : Ev (fun k => laws_toDevice.f k h l) (h, l.map secOf) := by
  unfold laws_toDevice.f
  exact Ev.bind (toByteS h (by omega)) (Ev.bind (toSectorS_is l hn hw) (Ev.now _))
theorem eqSectorS_same (l : List S65) (hn : l.length ≤ 1048576) (hw : ∀ s ∈ l, s.f1.length ≤ 1048576) : Ev (fun k => laws_eqSectorS.f k l l) true := by
  unfold laws_eqSectorS.f
  simp only [if_true]
  refine up (fun k i => laws_eqSectorS.l0 k l l (i : Int)) true l.length ?_ ?_
  · refine Ev.step (f := fun _ => some true) (fun k => ?_) (Ev.now _)
    simp only [laws_eqSectorS.l0]
    rw [if_neg (by omega)]
  · intro i hi hev
    refine Ev.step (fun k => by simp only [laws_eqSectorS.l0]; rw [if_pos (show (i : Int) < (l.length : Int) by omega), if_pos (show 0 ≤ (i : Int) by omega), if_pos (show (i : Int) < (l.length : Int) by omega), rdB]) ?_
    refine Ev.bind (a := true) ?_ ?_
    · unfold laws_eqSector.f
      simp only [if_true]
      refine Ev.bind (eqByteS_same _ ?_) (by simp only [if_true]; exact Ev.now _)
      have := hw _ (getD_mem l z65 i hi)
      omega
    · simp only [if_true]
      rw [inc i (by omega)]
      exact hev
theorem eqDevice_same (h : List Int) (l : List S65) (h1 : h.length ≤ 1048576) (hn : l.length ≤ 1048576) (hw : ∀ s ∈ l, s.f1.length ≤ 1048576) : Ev (fun k => laws_eqDevice.f k h l h l) true := by
  unfold laws_eqDevice.f
  refine Ev.bind (eqByteS_same h (by omega)) ?_
  simp only [if_true]
  refine Ev.bind (eqSectorS_same l hn hw) ?_
  simp only [if_true]
  exact Ev.now _
theorem secs_small {l : List S58} (hw : ∀ s ∈ l, s.f1.length ≤ 1048576) : ∀ s ∈ l.map secOf, s.f1.length ≤ 1048576 := by
  intro s hs
  obtain ⟨a, ha, rfl⟩ := List.mem_map.1 hs
  exact hw a ha
def secB (s : S65) : Bool := decide (0 ≤ s.f0) && (decide (s.f0 ≤ 127) && decide (s.f1.length = 32))
def devB (h : List Int) (l : List S65) : Bool := decide ((h.length : Int) % 32 = 0) && (decide ((h.length : Int) ≤ 4096) && (decide ((l.length : Int) ≤ 4096) && l.all secB))
theorem ok_is (s : S65) : impl_DeviceOK.ok s = secB s := by
  unfold impl_DeviceOK.ok impl_DeviceOK_1.f impl_within.f secB
  by_cases h1 : 0 ≤ s.f0 <;> by_cases h2 : s.f0 ≤ 127 <;> by_cases h3 : s.f1.length = 32 <;> simp [h1, h2, h3] <;> omega
theorem impl_device (h : List Int) (l : List S65) : impl_DeviceOK.f h l = some (devB h l) := by
  unfold impl_DeviceOK.f devB
  rw [show impl_DeviceOK.ok = secB from funext ok_is]
theorem spec_secs (h : List Int) (l : List S65) (hn : l.length ≤ 1048576) (d : Nat) : ∀ i : Nat, i + d = l.length → Ev (fun k => spec_DeviceOK.l0 k (i : Int) h l) ((l.drop i).all secB) := by
  induction d with
  | zero =>
    intro i hd
    refine Ev.step (f := fun _ => some true) (fun k => ?_) ?_
    · simp only [spec_DeviceOK.l0]; rw [if_neg (by omega)]
    · rw [List.drop_of_length_le (by omega)]; exact Ev.now _
  | succ d ih =>
    intro i hd
    rw [drop_cons l z65 i (by omega), List.all_cons]
    have hin : spec_l01In.f (l.getD i z65).f0 0 127 = some (decide (0 ≤ (l.getD i z65).f0) && decide ((l.getD i z65).f0 ≤ 127)) := by
      unfold spec_l01In.f
      generalize l.getD i z65 = s
      by_cases c : 0 ≤ s.f0 <;> simp [c]
    have st : ∀ g r, (∀ k, spec_DeviceOK.l0 (k + 1) (i : Int) h l = g k) → Ev g r → Ev (fun k => spec_DeviceOK.l0 k (i : Int) h l) r := fun g r h1 h2 => Ev.step h1 h2
    have e0 : ∀ k, spec_DeviceOK.l0 (k + 1) (i : Int) h l = if (decide (0 ≤ (l.getD i z65).f0) && decide ((l.getD i z65).f0 ≤ 127)) = true then (if ((l.getD i z65).f1.length : Int) = 32 then spec_DeviceOK.l0 k ((i + 1 : Nat) : Int) h l else some false) else some false := by
      intro k
      simp only [spec_DeviceOK.l0]
      rw [if_pos (by omega), if_pos (by omega), rdB, hin, inc i (by omega)]
      simp only [Option.bind_some]
    refine st _ _ e0 ?_
    unfold secB
    generalize l.getD i z65 = s
    by_cases h1 : 0 ≤ s.f0
    · by_cases h2 : s.f0 ≤ 127
      · by_cases h3 : s.f1.length = 32
        · simp only [h1, h2, h3, decide_true, Bool.true_and, if_true, show ((32 : Nat) : Int) = 32 from rfl]
          exact ih (i + 1) (by omega)
        · simp only [h1, h2, h3, decide_true, decide_false, Bool.true_and, if_true, Bool.false_and, if_neg (show ¬ (s.f1.length : Int) = 32 by omega)]
          exact Ev.now _
      · simp only [h1, h2, decide_true, decide_false, Bool.true_and, Bool.false_eq_true, if_false, Bool.false_and]
        exact Ev.now _
    · simp only [h1, decide_false, Bool.false_and, Bool.false_eq_true, if_false]
      exact Ev.now _
theorem spec_device (h : List Int) (l : List S65) (hn : l.length ≤ 1048576) : Ev (fun k => spec_DeviceOK.f k h l) (devB h l) := by
  have hj : ∀ b : Bool, Ev (fun k => spec_DeviceOK.j0 k b h l) (!b && l.all secB) := by
    intro b
    cases b with
    | true => exact Ev.step (f := fun _ => some false) (fun k => by simp only [spec_DeviceOK.j0, if_true]) (Ev.now _)
    | false => exact Ev.step (fun k => by simp only [spec_DeviceOK.j0]; rw [if_neg (by decide)]; rfl) (spec_secs h l hn l.length 0 (by omega))
  have ht : Ev (fun k => spec_DeviceOK.j0 k true h l) false := hj true
  unfold spec_DeviceOK.f devB
  by_cases c1 : (h.length : Int) % 32 = 0
  · simp only [if_pos c1, decide_eq_true c1, Bool.true_and]
    by_cases c2 : (h.length : Int) ≤ 4096
    · simp only [if_neg (show ¬ (h.length : Int) > 4096 by omega), decide_eq_true c2, Bool.true_and]
      refine Ev.eq (hj _) ?_
      by_cases c3 : (l.length : Int) ≤ 4096
      · rw [decide_eq_true c3, decide_eq_false (show ¬ (l.length : Int) > 4096 by omega)]; rfl
      · rw [decide_eq_false c3, decide_eq_true (show (l.length : Int) > 4096 by omega)]; rfl
    · simp only [if_pos (show (h.length : Int) > 4096 by omega), decide_eq_false c2, Bool.false_and]
      exact ht
  · simp only [if_neg c1, decide_eq_false c1, Bool.false_and]
    exact ht
end Go.Proofs.Ythacgkafdjnppaa.YU
