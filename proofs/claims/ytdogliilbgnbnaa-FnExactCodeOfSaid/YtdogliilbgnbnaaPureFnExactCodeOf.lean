/- The program's CodeOf and the reference's give the same code for every text; no condition but the bound on a string's size that the statement itself bears. -/
import Derived.Test.YtdogliilbgnbnaaPFnExactCodeOfx1
namespace Go.Proofs.Ytdogliilbgnbnaa.Pure
open Go.RowKit Go.Proofs.Ytdogliilbgnbnaa.PFnExactCodeOf Go.Proofs.YtdogliilbgnbnaaW.PrintWords Go.Proofs.YtdogliilbgnbnaaW.PrintLast

theorem spec_word (i : Int) (h0 : 0 ≤ i) (h1 : i < 17) : ∃ l, impl_codeWords.f = some l ∧ spec_CodeWord.f i = some (rdOf ByteArray.empty l i) ∧ (l.length : Int) = 17 := by
  refine ⟨_, rfl, ?_, rfl⟩
  unfold spec_CodeWord.f
  simp only [Option.bind_some]
  rw [if_neg (by omega), if_neg (by simp; omega), if_pos h0, if_pos (by simp; omega)]

theorem alike (a : ByteArray) (l : List ByteArray) (hl : impl_codeWords.f = some l) (hn : (l.length : Int) = 17) (d : Nat) : ∀ (k : Nat) (i : Int), 0 ≤ i → i ≤ 17 → 17 - i = d → d < k →
    ∃ r, spec_CodeOf.l0 k a i = some r ∧ slices_Index_string_string.l0 k l a 17 i = some r := by
  induction d with
  | zero =>
    intro k i h0 h1 hd hk
    obtain ⟨k, rfl⟩ : ∃ m, k = m + 1 := ⟨k - 1, by omega⟩
    refine ⟨-1, ?_, ?_⟩
    · simp only [spec_CodeOf.l0]; rw [if_neg (by omega)]
    · simp only [slices_Index_string_string.l0]; rw [if_neg (by omega)]
  | succ d ih =>
    intro k i h0 h1 hd hk
    obtain ⟨k, rfl⟩ : ∃ m, k = m + 1 := ⟨k - 1, by omega⟩
    obtain ⟨l', hl', hs, _⟩ := spec_word i h0 (by omega)
    obtain rfl : l' = l := Option.some.inj (hl'.symm.trans hl)
    have hw : wrap64 (i + 1) = i + 1 := by unfold wrap64; omega
    simp only [spec_CodeOf.l0, slices_Index_string_string.l0]
    rw [if_pos (show i ≤ 16 by omega), if_pos (show i < 17 by omega), if_pos h0, if_pos (by omega), hs, hw]
    simp only [Option.bind_some]
    by_cases e : (rdOf ByteArray.empty l' i).toList = a.toList
    · rw [if_pos e, if_pos e.symm]; exact ⟨i, rfl, rfl⟩
    · rw [if_neg e, if_neg (fun h => e h.symm)]
      exact ih k (i + 1) (by omega) (by omega) (by omega) (by omega)

theorem FnExactCodeOf : laws_FnExactCodeOf.Pure := by
  intro a _
  obtain ⟨l, hl, _, hn⟩ := spec_word 0 (by omega) (by omega)
  obtain ⟨r, h1, h2⟩ := alike a l hl hn 17 18 0 (by omega) (by omega) (by omega) (by omega)
  refine ⟨18, ?_⟩
  unfold laws_FnExactCodeOf.f impl_CodeOf.f spec_CodeOf.f slices_Index_string_string.f
  rw [hl]
  simp only [Option.bind_some]
  rw [hn, h1, h2]
  simp

end Go.Proofs.Ytdogliilbgnbnaa.Pure
