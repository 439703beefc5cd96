/- Plain facts on the order of texts: the machine's test and the library's comparison; the place of a key in a list. -/
import Derived.Lib.Bytealg
import Derived.Sort.Walk0
namespace Go.Proofs.Ythacgkafdjnppaa.OpenOrd
open Go.Lib
set_option linter.unusedSimpArgs false
theorem less_trans : ∀ a b c : List UInt8, Op.bytesLess a b = true → Op.bytesLess b c = true → Op.bytesLess a c = true
  | a, b, [], _, h => by cases b <;> simp [Op.bytesLess] at h
  | [], _, _ :: _, _, _ => rfl
  | x :: a, [], _, h, _ => by simp [Op.bytesLess] at h
  | x :: a, y :: b, z :: c, h1, h2 => by
    simp only [Op.bytesLess, Bool.or_eq_true, Bool.and_eq_true, decide_eq_true_eq, beq_iff_eq] at h1 h2 ⊢
    rcases h1 with h1 | ⟨rfl, h1⟩
    · rcases h2 with h2 | ⟨rfl, h2⟩
      · exact .inl (UInt8.lt_trans h1 h2)
      · exact .inl h1
    · rcases h2 with h2 | ⟨rfl, h2⟩
      · exact .inl h2
      · exact .inr ⟨rfl, less_trans a b c h1 h2⟩
theorem cmp_neg : ∀ a b : List UInt8, compareBytes a b < 0 ↔ Op.bytesLess a b = true
  | [], [] => by simp [compareBytes, Op.bytesLess]
  | [], _ :: _ => by simp [compareBytes, Op.bytesLess]
  | _ :: _, [] => by simp [compareBytes, Op.bytesLess]
  | x :: a, y :: b => by
    have ih := cmp_neg a b
    unfold compareBytes Op.bytesLess
    by_cases h1 : x < y
    · simp [h1]
    · by_cases h2 : y < x
      · have : x ≠ y := fun h => by subst h; exact absurd h2 (UInt8.lt_irrefl x)
        simp [h1, h2, this]
      · have : x = y := UInt8.le_antisymm (UInt8.not_lt.1 h2) (UInt8.not_lt.1 h1)
        simp [this, ih]
theorem cmp_zero : ∀ a b : List UInt8, compareBytes a b = 0 ↔ a = b
  | [], [] => by simp [compareBytes]
  | [], _ :: _ => by simp [compareBytes]
  | _ :: _, [] => by simp [compareBytes]
  | x :: a, y :: b => by
    have ih := cmp_zero a b
    unfold compareBytes
    by_cases h1 : x < y
    · have : x ≠ y := fun h => by subst h; exact absurd h1 (UInt8.lt_irrefl x)
      simp [h1, this]
    · by_cases h2 : y < x
      · have : x ≠ y := fun h => by subst h; exact absurd h2 (UInt8.lt_irrefl x)
        simp [h1, h2, this]
      · have : x = y := UInt8.le_antisymm (UInt8.not_lt.1 h2) (UInt8.not_lt.1 h1)
        simp [this, ih]
theorem less_total (a b : List UInt8) (h1 : Op.bytesLess a b = false) (h2 : a ≠ b) : Op.bytesLess b a = true := by
  induction a generalizing b with
  | nil =>
    cases b with
    | nil => exact absurd rfl h2
    | cons y b => simp [Op.bytesLess] at h1
  | cons x a ih =>
    cases b with
    | nil => rfl
    | cons y b =>
      simp only [Op.bytesLess, Bool.or_eq_false_iff, decide_eq_false_iff_not, Bool.and_eq_false_iff, beq_eq_false_iff_ne] at h1
      simp only [Op.bytesLess, Bool.or_eq_true, Bool.and_eq_true, decide_eq_true_eq, beq_iff_eq]
      by_cases h : y < x
      · exact .inl h
      · have e : x = y := UInt8.le_antisymm (UInt8.not_lt.1 h) (UInt8.not_lt.1 h1.1)
        subst e
        refine .inr ⟨rfl, ih b ?_ (fun he => h2 (by rw [he]))⟩
        rcases h1.2 with h3 | h3
        · exact absurd rfl h3
        · exact h3
section
variable {α : Type} (p : α → Bool) (z : α)
def ahead (xs : List α) : Nat := (xs.takeWhile p).length
theorem ahead_le (xs : List α) : ahead p xs ≤ xs.length := by
  unfold ahead; exact (List.takeWhile_sublist _).length_le
theorem ahead_is (xs : List α) (r : Nat) (hr : r ≤ xs.length) (h1 : ∀ j, j < r → p (xs.getD j z) = true) (h2 : r < xs.length → p (xs.getD r z) = false) : ahead p xs = r := by
  induction xs generalizing r with
  | nil => simp at hr; simp [ahead, hr]
  | cons x xs ih =>
    cases r with
    | zero =>
      have := h2 (by simp)
      simp at this
      simp [ahead, List.takeWhile_cons, this]
    | succ r =>
      have h0 := h1 0 (by omega)
      simp at h0
      have := ih r (by simpa using hr) (fun j hj => by have := h1 (j + 1) (by omega); simpa using this) (fun h => by have := h2 (by simpa using h); simpa using this)
      unfold ahead at this ⊢
      simp [List.takeWhile_cons, h0, this]
theorem ahead_lt (xs : List α) (j : Nat) (h : j < ahead p xs) : p (xs.getD j z) = true := by
  induction xs generalizing j with
  | nil => simp [ahead] at h
  | cons x xs ih =>
    unfold ahead at h
    rw [List.takeWhile_cons] at h
    by_cases c : p x = true
    · rw [if_pos c] at h
      cases j with
      | zero => simpa using c
      | succ j => have := ih j (by unfold ahead; simpa using h); simpa using this
    · rw [if_neg c] at h; simp at h
theorem ahead_at (xs : List α) (h : ahead p xs < xs.length) : p (xs.getD (ahead p xs) z) = false := by
  induction xs with
  | nil => simp at h
  | cons x xs ih =>
    unfold ahead at h ⊢
    rw [List.takeWhile_cons] at h ⊢
    by_cases c : p x = true
    · rw [if_pos c] at h ⊢
      have := ih (by unfold ahead; simpa using h)
      simpa [ahead] using this
    · rw [if_neg c]; simpa using c
end
end Go.Proofs.Ythacgkafdjnppaa.OpenOrd
