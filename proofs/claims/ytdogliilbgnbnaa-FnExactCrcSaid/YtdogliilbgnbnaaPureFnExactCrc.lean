/- The program's Crc and the reference's give the same number for all bytes, and write into nothing; no condition beyond the statement's own. -/
import Derived.Test.YtdogliilbgnbnaaYCrcCrcEq
namespace Go.Proofs.Ytdogliilbgnbnaa.Pure
open Go.RowKit Go.Proofs.Ytdogliilbgnbnaa.Num Go.Proofs.Ytdogliilbgnbnaa.YCrc Go.Proofs.Ytdogliilbgnbnaa.XCrc Go.Proofs.YtdogliilbgnbnaaW.PrintWords Go.Proofs.YtdogliilbgnbnaaW.PrintLast

theorem FnExactCrc : laws_FnExactCrc.Pure := by
  intro l _ _ hw
  refine Ev.rounds (g := fun k => laws_FnExactCrc.f k l) ?_
  have hb : ∀ b ∈ l, 0 ≤ b ∧ b < 256 := fun b h => wf_u8 (hw b h)
  unfold laws_FnExactCrc.f
  by_cases hl : (l.length : Int) > 1048576
  · simp only [if_pos hl]; exact Ev.now _
  · simp only [if_neg hl]
    have hs : Ev (fun k => spec_Crc.f k l) (if (l.length : Int) > 65536 then 0 else (crcV l : Int)) := by
      unfold spec_Crc.f
      by_cases h : (l.length : Int) > 65536
      · simp only [if_pos h]; exact Ev.now _
      · simp only [if_neg h]; exact Ev.bind (spec_crc l (by omega) hb) (Ev.now _)
    have hi : Ev (fun k => impl_Crc.f k l) (if (l.length : Int) > 65536 then 0 else (crcV l : Int)) := by
      unfold impl_Crc.f impl_isShort_byte.f
      by_cases h : (l.length : Int) > 65536
      · simp only [if_pos h, Option.bind_some]; rw [decide_eq_false (by omega)]; exact Ev.now _
      · simp only [if_neg h, Option.bind_some]; rw [decide_eq_true (by omega)]; exact Ev.bind (impl_crc' l (by omega) hb) (Ev.now _)
    refine Ev.bind (toByteS l (by omega)) (Ev.bind hs (Ev.bind (toByteS l (by omega)) (Ev.bind hi ?_)))
    simp only [if_true]
    exact Ev.bind (toByteS l (by omega)) (Ev.bind (eqByteS_same l (by omega)) (Ev.now _))
end Go.Proofs.Ytdogliilbgnbnaa.Pure
