/- Plain facts: the program and the reference read the same batches out of the same bytes. -/
import Derived.Test.YthacgkafdjnppaaYUBatchEq
namespace Go.Proofs.Ythacgkafdjnppaa.YU
open Go.RowKit Go.Proofs.Ythacgkafdjnppaa.Num Go.Proofs.Ythacgkafdjnppaa.Loops Go.Proofs.Ythacgkafdjnppaa.XU Go.Proofs.YthacgkafdjnppaaW.PrintWords Go.Proofs.YthacgkafdjnppaaW.PrintLast
theorem go_same : impl_readChange.go = spec_l03Read.go := rfl
theorem ok_chg (s : S79) : impl_readBatch.ok s = chgB s := by unfold impl_readBatch.ok; rw [impl_chg]; rfl
theorem all_more (F : Nat) : ∀ (l : List Int) (out : List S79), ∃ m, (spec_l03Read.all F l out).1 = out ++ m := by
  induction F with
  | zero => intro l out; exact ⟨[], by simp [spec_l03Read.all]⟩
  | succ F ih =>
    intro l out
    rw [spec_l03Read.all]
    by_cases c : l.length = 0
    · rw [if_pos c]; exact ⟨[], by simp⟩
    · rw [if_neg c]
      cases spec_l03Read.go l with
      | none => exact ⟨[], by simp⟩
      | some p =>
        obtain ⟨s, r⟩ := p
        obtain ⟨m, hm⟩ := ih r (out ++ [s])
        exact ⟨s :: m, by simp only; rw [hm]; simp⟩
def goodB (p : List S79 × Bool) : Bool := p.2 && batB p.1
theorem go_all (F : Nat) : ∀ (l : List Int) (out : List S79), out.length ≤ 30 → out.all chgB = true → l.length < F →
    impl_readBatch.go F l out = if goodB (spec_l03Read.all F l out) = true then some (spec_l03Read.all F l out).1 else none := by
  induction F with
  | zero => intro l out _ _ h; omega
  | succ F ih =>
    intro l out h1 h2 hF
    rw [impl_readBatch.go, spec_l03Read.all]
    by_cases c : l.length = 0
    · rw [if_pos c, if_pos c]
      have : goodB (out, true) = true := by
        simp only [goodB, batB, Bool.true_and, Bool.and_eq_true, decide_eq_true_eq]
        exact ⟨by omega, h2⟩
      rw [if_pos this]
    · rw [if_neg c, if_neg c, go_same]
      cases hg : spec_l03Read.go l with
      | none => simp [goodB]
      | some p =>
        obtain ⟨s, r⟩ := p
        simp only
        have hlt : r.length < F := by
          have := impl_readChange.shorter (l := l) (s := s) (r := r) (by rw [go_same]; exact hg) (by omega)
          omega
        obtain ⟨m, hm⟩ := all_more F r (out ++ [s])
        by_cases h30 : out.length = 30
        · rw [if_pos h30, if_neg]
          intro hh
          simp only [goodB, batB, Bool.and_eq_true, decide_eq_true_eq] at hh
          have := hh.2.1
          rw [hm] at this
          simp at this
          omega
        · rw [if_neg h30, ok_chg]
          cases hs : chgB s with
          | true =>
            rw [if_pos rfl]
            exact ih r (out ++ [s]) (by rw [List.length_append]; simp; omega) (by rw [List.all_append, h2]; simp [hs]) hlt
          | false =>
            rw [if_neg (by decide), if_neg]
            intro hh
            simp only [goodB, batB, Bool.and_eq_true, decide_eq_true_eq] at hh
            have := hh.2.2
            rw [hm] at this
            simp [hs] at this
theorem bytes_ok (l : List Int) (hb : ∀ x ∈ l, 0 ≤ x ∧ x < 256) : l.all (fun x => decide (0 ≤ x) && decide (x < 256)) = true := by
  simp only [List.all_eq_true, Bool.and_eq_true, decide_eq_true_eq]; exact hb
theorem all_len (F : Nat) : ∀ (l : List Int) (out : List S79), (spec_l03Read.all F l out).1.length ≤ out.length + l.length := by
  induction F with
  | zero => intro l out; simp [spec_l03Read.all]
  | succ F ih =>
    intro l out
    rw [spec_l03Read.all]
    by_cases c : l.length = 0
    · rw [if_pos c]; simp
    · rw [if_neg c]
      cases hg : spec_l03Read.go l with
      | none => simp
      | some p =>
        obtain ⟨s, r⟩ := p
        have := impl_readChange.shorter (l := l) (s := s) (r := r) (by rw [go_same]; exact hg) (by omega)
        have h2 := ih r (out ++ [s])
        simp only
        rw [List.length_append] at h2
        simp at h2
        omega
def readV (l : List Int) : List S79 × Bool := let p := spec_l03Read.all (l.length + 1) l []; if goodB p = true then (p.1, true) else (p.1, false)
theorem spec_read (l : List Int) (hb : ∀ x ∈ l, 0 ≤ x ∧ x < 256) (hn : l.length ≤ 65536) : Ev (fun k => spec_l03Read.f k l) (readV l) := by
  unfold spec_l03Read.f
  simp only [if_pos (⟨hn, bytes_ok l hb⟩ : l.length ≤ 65536 ∧ _)]
  unfold spec_l03Read.res readV
  have hl := all_len (l.length + 1) l []
  generalize spec_l03Read.all (l.length + 1) l [] = p at hl
  obtain ⟨a, b⟩ := p
  cases b with
  | false => simp [goodB]; exact Ev.now _
  | true =>
    simp only [if_true]
    simp only [List.length_nil, Nat.zero_add] at hl
    refine Ev.bind (spec_bat a (by omega)) ?_
    simp only [goodB, Bool.true_and]
    cases batB a
    · simp; exact Ev.now _
    · simp; exact Ev.now _
theorem impl_read (l : List Int) (hb : ∀ x ∈ l, 0 ≤ x ∧ x < 256) (hn : l.length ≤ 65536) : impl_readBatch.f l = some (if (readV l).2 = true then ((readV l).1, true) else ([], false)) := by
  unfold impl_readBatch.f
  rw [if_pos ⟨hn, bytes_ok l hb⟩, go_all _ _ _ (by simp) (by simp) (by omega)]
  unfold readV
  generalize spec_l03Read.all (l.length + 1) l [] = p
  cases h : goodB p <;> simp [impl_readBatch.res, h]
theorem readV_len (l : List Int) (h : (readV l).2 = true) : (readV l).1.length ≤ 30 := by
  unfold readV at h ⊢
  generalize spec_l03Read.all (l.length + 1) l [] = p at h ⊢
  cases hg : goodB p with
  | false => simp [hg] at h
  | true =>
    have hg2 := hg
    simp only [goodB, batB, Bool.and_eq_true, decide_eq_true_eq] at hg2
    simp only [hg, if_true]
    omega
end Go.Proofs.Ythacgkafdjnppaa.YU
