/- Plain facts on loops that count up, and on lists that are filled place by place; no program in sight. -/
import Derived.Test.YthacgkafdjnppaaVAll
import Derived.Test.YthacgkafdjnppaaYBits
namespace Go.Proofs.Ythacgkafdjnppaa.Loops
open Go.RowKit Go.Proofs.Ythacgkafdjnppaa.Num Go.Proofs.YthacgkafdjnppaaW.PrintWords
theorem up {γ : Type} (L : Nat → Nat → Option γ) (r : γ) (n : Nat) (stop : Ev (fun k => L k n) r) (next : ∀ i, i < n → Ev (fun k => L k (i + 1)) r → Ev (fun k => L k i) r) : Ev (fun k => L k 0) r := by
  have key : ∀ d i, i + d = n → Ev (fun k => L k i) r := by
    intro d
    induction d with
    | zero => intro i h; rw [show i = n from by omega]; exact stop
    | succ d ih => intro i h; exact next i (by omega) (ih (i + 1) (by omega))
  exact key n 0 (by omega)
theorem ev_pos {γ : Type} {c : Prop} {_ : Decidable c} {A B : Nat → Option γ} {r : γ} (hc : c) (h : Ev A r) : Ev (fun k => if c then A k else B k) r := by
  simp only [if_pos hc]; exact h
theorem ev_neg {γ : Type} {c : Prop} {_ : Decidable c} {A B : Nat → Option γ} {r : γ} (hc : ¬ c) (h : Ev B r) : Ev (fun k => if c then A k else B k) r := by
  simp only [if_neg hc]; exact h
theorem ev_now {γ δ : Type} {x : γ} {f : Nat → γ → Option δ} {r : δ} (h : Ev (fun k => f k x) r) : Ev (fun k => (some x).bind (f k)) r := h
def filled {β : Type} (l : List β) (d : β) (i : Nat) : List β := l.take i ++ List.replicate (l.length - i) d
theorem filled_zero {β : Type} (l : List β) (d : β) : filled l d 0 = List.replicate l.length d := by simp [filled]
theorem filled_all {β : Type} (l : List β) (d : β) : filled l d l.length = l := by simp [filled]
theorem filled_length {β : Type} (l : List β) (d : β) (i : Nat) (h : i ≤ l.length) : (filled l d i).length = l.length := by simp [filled]; omega
theorem filled_set {β : Type} (l : List β) (d : β) (i : Nat) (h : i < l.length) (y : β) (hy : l[i]? = some y) : (filled l d i).set i y = filled l d (i + 1) := by
  apply List.ext_getElem?
  intro j
  have hl : (l.take i).length = i := by simp; omega
  unfold filled
  rw [List.getElem?_set]
  by_cases e : i = j
  · subst e
    rw [if_pos rfl, if_pos (by simp; omega), List.getElem?_append_left (by simp; omega), List.getElem?_take, if_pos (by omega), hy]
  · rw [if_neg e]
    by_cases c : j < i
    · rw [List.getElem?_append_left (by omega), List.getElem?_append_left (by simp; omega), List.getElem?_take, List.getElem?_take, if_pos c, if_pos (by omega)]
    · rw [List.getElem?_append_right (by omega), List.getElem?_append_right (by simp; omega), List.getElem?_replicate, List.getElem?_replicate]
      simp only [hl, List.length_take]
      by_cases c2 : j < l.length
      · rw [if_pos (by omega), if_pos (by omega)]
      · rw [if_neg (by omega), if_neg (by omega)]
theorem getD_mem {α : Type} (l : List α) (d : α) (i : Nat) (h : i < l.length) : l.getD i d ∈ l := by
  rw [List.getD_eq_getElem?_getD, List.getElem?_eq_getElem h]; exact List.getElem_mem h
theorem getD_get {α : Type} (l : List α) (d : α) (i : Nat) (h : i < l.length) : l[i]? = some (l.getD i d) := by
  rw [List.getD_eq_getElem?_getD, List.getElem?_eq_getElem h]; rfl
theorem drop_cons {α : Type} (l : List α) (d : α) (i : Nat) (h : i < l.length) : l.drop i = l.getD i d :: l.drop (i + 1) := by
  rw [List.getD_eq_getElem?_getD, List.getElem?_eq_getElem h]; exact List.drop_eq_getElem_cons h
theorem inc (i : Nat) (h : i < 1099511627776) : wrap64 ((i : Int) + 1) = ((i + 1 : Nat) : Int) := by rw [w64 (by omega) (by omega)]; rfl
end Go.Proofs.Ythacgkafdjnppaa.Loops
