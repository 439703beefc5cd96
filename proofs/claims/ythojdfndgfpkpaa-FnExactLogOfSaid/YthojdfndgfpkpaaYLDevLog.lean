/- Plain facts: the log of a device is the scan of what is read of it, for the program and for the reference. -/
import Derived.Test.YthojdfndgfpkpaaYLDevPut
import Derived.Test.YthojdfndgfpkpaaYLScanEq2
namespace Go.Proofs.Ythojdfndgfpkpaa.YL
open Go.RowKit Go.Proofs.Ythojdfndgfpkpaa.Num Go.Proofs.Ythojdfndgfpkpaa.Loops Go.Proofs.Ythojdfndgfpkpaa.XL Go.Proofs.YthojdfndgfpkpaaW.PrintWords Go.Proofs.YthojdfndgfpkpaaW.PrintLast Go.Proofs.Ythojdfndgfpkpaa.OpenCopy

theorem putL_bytes (l s : List Int) (i : Nat) (h1 : ∀ x ∈ l, 0 ≤ x ∧ x < 256) (h2 : ∀ x ∈ s, 0 ≤ x ∧ x < 256) : ∀ x ∈ putL l i s, 0 ≤ x ∧ x < 256 := by
  have h3 : ∀ x ∈ l ++ List.replicate (32 * (i + 1) - l.length) 0, 0 ≤ x ∧ x < 256 := by
    intro x hx
    rcases List.mem_append.1 hx with hx | hx
    · exact h1 x hx
    · have := List.eq_of_mem_replicate hx; omega
  intro x hx
  unfold putL at hx
  rcases List.mem_append.1 hx with hx | hx
  · exact h3 x (List.mem_of_mem_take hx)
  · rcases List.mem_append.1 hx with hx | hx
    · exact h2 x hx
    · exact h3 x (List.mem_of_mem_drop hx)
theorem putAll_bytes (l : List S116) : ∀ x : List Int, (∀ s ∈ l, ∀ y ∈ s.f1, 0 ≤ y ∧ y < 256) → (∀ y ∈ x, 0 ≤ y ∧ y < 256) → ∀ y ∈ putAll x l, 0 ≤ y ∧ y < 256 := by
  induction l with
  | nil => intro x _ h; exact h
  | cons s r ih =>
    intro x h h1
    exact ih _ (fun t ht => h t (List.mem_cons_of_mem _ ht)) (putL_bytes x s.f1 s.f0.toNat h1 (h s (List.mem_cons_self ..)))
theorem log_both (h : List Int) (l : List S116) (hn : l.length ≤ 1048576) (hh : ∀ y ∈ h, 0 ≤ y ∧ y < 256) (hl : ∀ s ∈ l, ∀ y ∈ s.f1, 0 ≤ y ∧ y < 256) : ∃ (R : List (List Int)) (c : Int), Ev (fun k => spec_LogOf.f k h l) (R, c) ∧ Ev (fun k => impl_LogOf.f k h l) (R, c) ∧ R.length ≤ 4096 ∧ ∀ s ∈ R, s.length ≤ 2000 := by
  unfold spec_LogOf.f impl_LogOf.f
  by_cases c : devB h l = true
  · obtain ⟨a, b, _, d⟩ := dev_parts c
    have hlen := putAll_length l h d a b
    obtain ⟨R, r1, r2, r3, r4⟩ := scan_both (putAll h l) (putAll_bytes l h hl hh) (by omega)
    refine ⟨R.1, 0, Ev.bind (spec_device h l hn) ?_, ?_, by omega, r4⟩
    · rw [c]; exact ev_pos rfl (Ev.bind (specRead_is c) (Ev.bind r2 (Ev.now _)))
    · simp only [impl_device, Option.bind_some]
      exact ev_pos c (Ev.bind (implRead_is c) (Ev.bind r1 (Ev.now _)))
  · refine ⟨[], 1, Ev.bind (spec_device h l hn) ?_, ?_, by simp, by simp⟩
    · exact ev_neg c (Ev.now _)
    · simp only [impl_device, Option.bind_some]
      exact ev_neg c (Ev.now _)
end Go.Proofs.Ythojdfndgfpkpaa.YL
