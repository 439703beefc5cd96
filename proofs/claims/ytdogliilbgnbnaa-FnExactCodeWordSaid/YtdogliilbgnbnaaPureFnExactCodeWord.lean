/- The program's CodeWord and the reference's give the same word for every number that an int can hold; no further condition. -/
import Derived.Test.YtdogliilbgnbnaaPFnExactCodeWordx1
namespace Go.Proofs.Ytdogliilbgnbnaa.Pure
open Go.RowKit Go.Proofs.Ytdogliilbgnbnaa.PFnExactCodeWord Go.Proofs.YtdogliilbgnbnaaW.PrintWords Go.Proofs.YtdogliilbgnbnaaW.PrintLast

theorem spec_word (i : Int) (h0 : 0 ≤ i) (h1 : i < 17) : ∃ l, impl_codeWords.f = some l ∧ spec_CodeWord.f i = some (rdOf ByteArray.empty l i) ∧ (l.length : Int) = 17 := by
  refine ⟨_, rfl, ?_, rfl⟩
  unfold spec_CodeWord.f
  simp only [Option.bind_some]
  rw [if_neg (by omega), if_neg (by simp; omega), if_pos h0, if_pos (by simp; omega)]

theorem FnExactCodeWord : laws_FnExactCodeWord.Pure := by
  intro a _
  unfold laws_FnExactCodeWord.f impl_CodeWord.f impl_within.f
  by_cases h : 0 ≤ a ∧ a < 17
  · obtain ⟨l, hl, hs, hn⟩ := spec_word a h.1 h.2
    rw [hs, if_pos h.1]
    simp only [Option.bind_some]
    rw [if_pos (by simp; omega), hl]
    simp only [Option.bind_some]
    rw [if_pos h.1, if_pos (by omega)]
    simp
  · have hs : spec_CodeWord.f a = some (⟨#[]⟩ : ByteArray) := by
      unfold spec_CodeWord.f
      simp only [Option.bind_some]
      by_cases h0 : a < 0
      · rw [if_pos h0]
      · rw [if_neg h0, if_pos (by simp; omega)]
    rw [hs]
    simp only [Option.bind_some]
    by_cases h0 : 0 ≤ a
    · rw [if_pos h0]; simp only [Option.bind_some]
      rw [if_neg (by simp; omega)]; simp
    · rw [if_neg h0]; simp

end Go.Proofs.Ytdogliilbgnbnaa.Pure
