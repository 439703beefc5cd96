/- Plain facts: what the program's isPrintable tells of a text is what the reference's l04Printable tells of it; no condition but the size. -/
import Derived.Test.YtjckchadcpaijaaYDCommon
namespace Go.Proofs.Ytjckchadcpaijaa.YD
open Go.RowKit Go.Proofs.Ytjckchadcpaijaa.Num Go.Proofs.Ytjckchadcpaijaa.XD Go.Proofs.YtjckchadcpaijaaW.PrintWords Go.Proofs.YtjckchadcpaijaaW.PrintLast

def cSigns : ByteArray := ⟨#[32, 39, 40, 41, 43, 44, 45, 46, 47, 58, 61, 63]⟩
def isLD (c : Int) : Bool := (decide (48 ≤ c) && decide (c ≤ 57)) || (decide (65 ≤ c) && decide (c ≤ 90)) || (decide (97 ≤ c) && decide (c ≤ 122))
def signFrom (c : Int) : Nat → Bool
  | 0 => false
  | d + 1 => (bt cSigns ((12 - (d + 1 : Nat) : Nat) : Int) == c) || signFrom c d
def isPr (c : Int) : Bool := isLD c || signFrom c 12

theorem pr_all : (List.range 256).all (fun n => impl_isPrintable_1.f (n : Int) == some (isPr (n : Int))) = true := by decide +kernel
theorem pr_ok (c : Int) (h : 0 ≤ c ∧ c < 256) : impl_isPrintable.ok c = isPr c := by
  have h1 := List.all_eq_true.1 pr_all c.toNat (List.mem_range.2 (by omega))
  have h2 : impl_isPrintable_1.f ((c.toNat : Nat) : Int) = some (isPr ((c.toNat : Nat) : Int)) := by simpa using h1
  rw [show ((c.toNat : Nat) : Int) = c from by omega] at h2
  unfold impl_isPrintable.ok
  rw [h2]; rfl

theorem digit_is (c : Int) : spec_l00Digit.f c = some (decide (48 ≤ c) && decide (c ≤ 57)) := by
  unfold spec_l00Digit.f
  by_cases h1 : 48 ≤ c <;> simp [h1]

theorem size_signs : ((cSigns.size : Nat) : Int) = 12 := rfl

theorem pr_l1 (t : ByteArray) (x3 c : Int) (r : Bool) (d : Nat) : ∀ (x5 : Bool) (i : Int), i = 12 - (d : Int) → d ≤ 12 →
    Ev (fun k => if x5 || signFrom c d then spec_l04Printable.l0 k t (wrap64 (x3 + 1)) else some false) r →
    Ev (fun k => spec_l04Printable.l1 k t x3 c x5 cSigns i) r := by
  induction d with
  | zero =>
    intro x5 i hi hd h
    refine Ev.step (fun k => ?_) h
    simp only [spec_l04Printable.l1]
    rw [size_signs, if_neg (by omega)]
    cases x5 <;> rfl
  | succ d ih =>
    intro x5 i hi hd h
    have e1 : wrap64 (i + 1) = 12 - (d : Int) := by rw [w64 (by omega) (by omega)]; omega
    have e2 : bt cSigns i = bt cSigns ((12 - (d + 1 : Nat) : Nat) : Int) := by rw [hi]; congr 1; omega
    cases x5 with
    | true =>
      refine Ev.step (fun k => ?_) (ih true (12 - (d : Int)) rfl (by omega) (by simpa using h))
      simp only [spec_l04Printable.l1]
      rw [size_signs, if_pos (by omega), e1]; rfl
    | false =>
      refine Ev.step (fun k => ?_) (ih (bt cSigns i == c) (12 - (d : Int)) rfl (by omega) (by simpa [signFrom, e2] using h))
      simp only [spec_l04Printable.l1]
      rw [size_signs, if_pos (by omega), e1, if_pos (show 0 ≤ i by omega)]; rfl

theorem pr_getD (t : ByteArray) (i : Nat) : (bytesOf t).getD i 0 = bt t i := by
  have h := rd_bytesOf t (i : Int)
  simpa [rd] using h
theorem pr_drop (t : ByteArray) (i : Nat) (h : i < t.size) : (bytesOf t).drop i = bt t i :: (bytesOf t).drop (i + 1) := by
  have hl := bytesOf_length t
  rw [List.drop_eq_getElem_cons (by omega), ← pr_getD, List.getD_eq_getElem?_getD, List.getElem?_eq_getElem (by omega)]; rfl

theorem pr_j1 (t : ByteArray) (x3 c : Int) (r : Bool) (x5 : Bool) (h : Ev (fun k => if x5 || signFrom c 12 then spec_l04Printable.l0 k t (wrap64 (x3 + 1)) else some false) r) :
    Ev (fun k => spec_l04Printable.j1 k t x3 c x5) r := by
  refine Ev.step (fun k => ?_) (pr_l1 t x3 c r 12 x5 0 (by omega) (by omega) h)
  simp only [spec_l04Printable.j1]
  rfl

theorem pr_loop (t : ByteArray) (hn : t.size < 1099511627776) (d : Nat) : ∀ i : Nat, i + d = t.size → Ev (fun k => spec_l04Printable.l0 k t (i : Int)) (((bytesOf t).drop i).all isPr) := by
  have hl := bytesOf_length t
  induction d with
  | zero =>
    intro i hd
    refine Ev.step (f := fun _ => some true) (fun k => ?_) ?_
    · simp only [spec_l04Printable.l0]; rw [if_neg (by omega)]
    · rw [List.drop_of_length_le (by omega)]; exact Ev.now _
  | succ d ih =>
    intro i hd
    have e1 : wrap64 ((i : Int) + 1) = ((i + 1 : Nat) : Int) := by rw [w64 (by omega) (by omega)]; rfl
    rw [pr_drop t i (by omega), List.all_cons]
    have key : ∀ x5 : Bool, x5 = isLD (bt t i) → Ev (fun k => spec_l04Printable.j1 k t (i : Int) (bt t i) x5) (isPr (bt t i) && ((bytesOf t).drop (i + 1)).all isPr) := by
      intro x5 h5
      refine pr_j1 t i (bt t i) _ x5 ?_
      rw [h5, e1]
      show Ev (fun k => if isPr (bt t i) then _ else _) _
      cases isPr (bt t i) with
      | true => simp only [if_true, Bool.true_and]; exact ih (i + 1) (by omega)
      | false => simp only [Bool.false_eq_true, if_false, Bool.false_and]; exact Ev.now _
    have st : ∀ (x5 : Bool), (∀ k, spec_l04Printable.l0 (k + 1) t (i : Int) = spec_l04Printable.j1 k t (i : Int) (bt t i) x5) → x5 = isLD (bt t i) → Ev (fun k => spec_l04Printable.l0 k t (i : Int)) (isPr (bt t i) && ((bytesOf t).drop (i + 1)).all isPr) :=
      fun x5 h h5 => Ev.step h (key x5 h5)
    generalize hc : bt t (i : Int) = c at *
    have hlt : (i : Int) < (t.size : Int) := by omega
    by_cases h1 : 48 ≤ c ∧ c ≤ 57
    · refine st true (fun k => ?_) (by simp [isLD, h1.1, h1.2])
      simp only [spec_l04Printable.l0]
      rw [if_pos hlt, if_pos (by omega), hc, digit_is]; simp [h1.1, h1.2]
    · have hd0 : (decide (48 ≤ c) && decide (c ≤ 57)) = false := by simpa using h1
      by_cases h2 : 65 ≤ c
      · by_cases h3 : c ≤ 90
        · refine st true (fun k => ?_) (by simp [isLD, h2, h3])
          simp only [spec_l04Printable.l0]
          rw [if_pos hlt, if_pos (by omega), hc, digit_is, hd0]; simp [h2, h3]
        · by_cases h4 : 97 ≤ c
          · refine st (decide (c ≤ 122)) (fun k => ?_) (by unfold isLD; rw [hd0]; simp [h3, h4])
            simp only [spec_l04Printable.l0]
            rw [if_pos hlt, if_pos (by omega), hc, digit_is, hd0]; simp [h2, h3, h4]
          · refine st false (fun k => ?_) (by unfold isLD; rw [hd0]; simp [h3, h4])
            simp only [spec_l04Printable.l0]
            rw [if_pos hlt, if_pos (by omega), hc, digit_is, hd0]; simp [h2, h3, h4]
      · refine st false (fun k => ?_) (by unfold isLD; rw [hd0]; simp [h2]; omega)
        simp only [spec_l04Printable.l0]
        rw [if_pos hlt, if_pos (by omega), hc, digit_is, hd0]; simp [h2, show ¬ 97 ≤ c by omega]

theorem bytes_rng (t : ByteArray) : ∀ c ∈ bytesOf t, 0 ≤ c ∧ c < 256 := by
  intro c h
  unfold bytesOf at h
  obtain ⟨b, _, rfl⟩ := List.mem_map.1 h
  have := b.toNat_lt
  omega

theorem spec_printable (t : ByteArray) (hn : t.size < 1099511627776) : Ev (fun k => spec_l04Printable.f k t) ((bytesOf t).all isPr) := by
  have := pr_loop t hn t.size 0 (by omega)
  simpa [spec_l04Printable.f] using this
theorem impl_printable (t : ByteArray) (hn : t.size < 1099511627776) : impl_isPrintable.f t = some ((bytesOf t).all isPr) := by
  unfold impl_isPrintable.f
  rw [if_pos (by omega)]
  congr 1
  have hr := bytes_rng t
  generalize bytesOf t = l at hr
  induction l with
  | nil => rfl
  | cons b l ih => rw [List.all_cons, List.all_cons, ih (fun c hc => hr c (by simp [hc])), pr_ok b (hr b (by simp))]

def nameB (t : ByteArray) : Bool := decide (0 < t.size) && (decide (t.size ≤ 40) && (bytesOf t).all isPr)
theorem spec_name (t : ByteArray) (hn : t.size < 1099511627776) : Ev (fun k => spec_l07Name.f k t) (nameB t) := by
  unfold spec_l07Name.f nameB
  by_cases h1 : 0 < t.size
  · simp only [if_pos (show (t.size : Int) > 0 by omega), h1, decide_true, Bool.true_and]
    by_cases h2 : t.size ≤ 40
    · simp only [if_pos (show (t.size : Int) ≤ 40 by omega), h2, decide_true, Bool.true_and]
      exact Ev.bind (spec_printable t hn) (Ev.now _)
    · simp only [if_neg (show ¬ (t.size : Int) ≤ 40 by omega), h2, decide_false, Bool.false_and]
      exact Ev.now _
  · simp only [if_neg (show ¬ (t.size : Int) > 0 by omega), h1, decide_false, Bool.false_and]
    exact Ev.now _
theorem within_is (a b c : Int) : impl_within.f a b c = some (decide (b ≤ a) && decide (a ≤ c)) := by
  unfold impl_within.f
  by_cases h : b ≤ a <;> simp [h]
theorem in_is (a b c : Int) : spec_l01In.f a b c = some (decide (b ≤ a) && decide (a ≤ c)) := by
  unfold spec_l01In.f
  by_cases h : b ≤ a <;> simp [h]
theorem impl_subject (t : ByteArray) (hn : t.size < 1099511627776) : impl_isSubject.f t = some (nameB t) := by
  unfold impl_isSubject.f nameB
  rw [within_is, impl_printable t hn]
  by_cases h1 : 0 < t.size <;> by_cases h2 : t.size ≤ 40 <;> simp [h1, h2] <;> omega
end Go.Proofs.Ytjckchadcpaijaa.YD
