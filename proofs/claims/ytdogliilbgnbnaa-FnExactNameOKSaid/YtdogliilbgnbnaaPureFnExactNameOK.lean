/- The program's NameOK and the reference's give the same answer for every text; no condition beyond the statement's own. -/
import Derived.Test.YtdogliilbgnbnaaXNx
import Derived.Test.YtdogliilbgnbnaaYBits
namespace Go.Proofs.Ytdogliilbgnbnaa.Pure
open Go.RowKit Go.Proofs.Ytdogliilbgnbnaa.Num Go.Proofs.Ytdogliilbgnbnaa.XN Go.Proofs.YtdogliilbgnbnaaW.PrintWords Go.Proofs.YtdogliilbgnbnaaW.PrintLast

def isL (c : Int) : Bool := (decide (97 ≤ c) && decide (c ≤ 122)) || (decide (65 ≤ c) && decide (c ≤ 90)) || decide (c = 95)
def isD (c : Int) : Bool := decide (48 ≤ c) && decide (c ≤ 57)
theorem letter_is (c : Int) : spec_l00Letter.f c = some (isL c) := by
  unfold spec_l00Letter.f isL
  by_cases h1 : 97 ≤ c <;> by_cases h2 : c ≤ 122 <;> by_cases h3 : 65 ≤ c <;> by_cases h4 : c ≤ 90 <;> by_cases h5 : c = 95 <;> simp [h1, h2, h3, h4, h5] <;> omega
theorem digit_is (c : Int) : spec_l00Digit.f c = some (isD c) := by
  unfold spec_l00Digit.f isD
  by_cases h1 : 48 ≤ c <;> simp [h1]
theorem ok_is (c : Int) : impl_NameOK.ok c = (isL c || isD c) := by
  unfold impl_NameOK.ok impl_NameOK_1.f impl_isLetter.f impl_isDigit.f isL isD
  by_cases h1 : 97 ≤ c <;> by_cases h2 : c ≤ 122 <;> by_cases h3 : 65 ≤ c <;> by_cases h4 : c ≤ 90 <;> by_cases h5 : c = 95 <;> by_cases h6 : 48 ≤ c <;> by_cases h7 : c ≤ 57 <;> simp [h1, h2, h3, h4, h5, h6, h7] <;> omega
theorem dig_is (c : Int) : (impl_isDigit.f c).getD false = isD c := by
  unfold impl_isDigit.f isD
  by_cases h1 : 48 ≤ c <;> simp [h1]

theorem getD_bytes (t : ByteArray) (i : Nat) : (bytesOf t).getD i 0 = bt t i := by
  have h := rd_bytesOf t (i : Int)
  simpa [rd] using h

theorem loop (t : ByteArray) (hn : t.size ≤ 1048576) (d : Nat) : ∀ i : Nat, i + d = t.size → Ev (fun k => spec_l00Word.l0 k t (i : Int)) (((bytesOf t).drop i).all fun c => isL c || isD c) := by
  have hl := bytesOf_length t
  induction d with
  | zero =>
    intro i hd
    refine Ev.step (f := fun _ => some true) (fun k => ?_) ?_
    · simp only [spec_l00Word.l0]; rw [if_neg (by omega)]
    · rw [List.drop_of_length_le (by omega)]; exact Ev.now _
  | succ d ih =>
    intro i hd
    have hc : (bytesOf t).drop i = bt t i :: (bytesOf t).drop (i + 1) := by
      rw [List.drop_eq_getElem_cons (by omega), ← getD_bytes, List.getD_eq_getElem?_getD, List.getElem?_eq_getElem (by omega)]; rfl
    have e1 : wrap64 ((i : Int) + 1) = ((i + 1 : Nat) : Int) := by rw [w64 (by omega) (by omega)]; rfl
    rw [hc, List.all_cons]
    cases c1 : isL (bt t i) with
    | true =>
      refine Ev.step (fun k => ?_) (ih (i + 1) (by omega))
      simp only [spec_l00Word.l0]
      rw [if_pos (by omega), if_pos (by omega), letter_is, c1, e1]; rfl
    | false =>
      cases c2 : isD (bt t i) with
      | true =>
        refine Ev.step (fun k => ?_) (ih (i + 1) (by omega))
        simp only [spec_l00Word.l0]
        rw [if_pos (by omega), if_pos (by omega), letter_is, c1, digit_is, c2, e1]; rfl
      | false =>
        refine Ev.step (f := fun _ => some false) (fun k => ?_) (Ev.now _)
        simp only [spec_l00Word.l0]
        rw [if_pos (by omega), if_pos (by omega), letter_is, c1, digit_is, c2]; rfl

def nameB (t : ByteArray) : Bool := decide (1 ≤ (t.size : Int)) && (decide ((t.size : Int) ≤ 40) && (!isD (bt t 0) && (bytesOf t).all fun c => isL c || isD c))

theorem spec_is (t : ByteArray) (hn : t.size ≤ 1048576) : Ev (fun k => spec_NameOK.f k t) (nameB t) := by
  have hl := bytesOf_length t
  unfold spec_NameOK.f
  refine Ev.bind (a := nameB t) ?_ (Ev.now _)
  unfold spec_l00Word.f nameB
  by_cases h1 : (t.size : Int) < 1
  · simp only [if_pos h1]
    refine Ev.step (f := fun _ => some false) (fun k => by simp only [spec_l00Word.j0]; rfl) ?_
    rw [decide_eq_false (by omega)]; exact Ev.now _
  · simp only [if_neg h1]
    by_cases h2 : (t.size : Int) > 40
    · simp only [if_pos h2]
      refine Ev.step (f := fun _ => some false) (fun k => by simp only [spec_l00Word.j0]; rfl) ?_
      rw [decide_eq_true (by omega), decide_eq_false (by omega)]; exact Ev.now _
    · simp only [if_neg h2, if_pos (show 0 < (t.size : Int) by omega), letter_is, Option.bind_some]
      rw [decide_eq_true (by omega), decide_eq_true (by omega), Bool.true_and, Bool.true_and]
      have hc : bytesOf t = bt t 0 :: (bytesOf t).drop 1 := by
        have := List.drop_eq_getElem_cons (l := bytesOf t) (i := 0) (by omega)
        rw [List.drop_zero] at this
        have e := getD_bytes t 0
        rw [List.getD_eq_getElem?_getD, List.getElem?_eq_getElem (by omega)] at e
        rw [this]; congr 1
      rw [hc, List.all_cons]
      have ex : isL (bt t 0) = true → isD (bt t 0) = false := by
        unfold isL isD; simp; omega
      cases c1 : isL (bt t 0) with
      | true =>
        rw [ex c1]
        refine Ev.step (fun k => ?_) (Ev.eq (loop t hn (t.size - 1) 1 (by omega)) (by simp))
        simp only [spec_l00Word.j0]; rfl
      | false =>
        refine Ev.step (f := fun _ => some false) (fun k => by simp only [spec_l00Word.j0]; rfl) (Ev.eq (Ev.now _) ?_)
        cases isD (bt t 0) <;> rfl
where Ev.eq {α : Type} {g : Nat → Option α} {r r' : α} (h : Ev g r) (e : r = r') : Ev g r' := e ▸ h

theorem impl_is (t : ByteArray) : impl_NameOK.f t = some (nameB t) := by
  unfold impl_NameOK.f nameB
  rw [dig_is]
  have : impl_NameOK.ok = fun c => isL c || isD c := funext ok_is
  rw [this]

theorem FnExactNameOK : laws_FnExactNameOK.Pure := by
  intro t _
  refine Ev.rounds (g := fun k => laws_FnExactNameOK.f k t) ?_
  unfold laws_FnExactNameOK.f
  by_cases hl : (t.size : Int) > 1048576
  · simp only [if_pos hl]; exact Ev.now _
  · simp only [if_neg hl, impl_is, Option.bind_some]
    refine Ev.bind (spec_is t (by omega)) ?_
    simp only [bne_self_eq_false, Bool.false_eq_true, if_false]
    exact Ev.now _
end Go.Proofs.Ytdogliilbgnbnaa.Pure
