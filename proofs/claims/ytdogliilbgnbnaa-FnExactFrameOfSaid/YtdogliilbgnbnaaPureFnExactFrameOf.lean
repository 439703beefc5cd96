/- The program's FrameOf and the reference's give the same bytes and code for all payloads, write into nothing and keep nothing; no condition beyond the statement's own. -/
import Derived.Test.YtdogliilbgnbnaaYCrcFrameEq
import Derived.Test.YtdogliilbgnbnaaYCrcMark
namespace Go.Proofs.Ytdogliilbgnbnaa.Pure
open Go.RowKit Go.Proofs.Ytdogliilbgnbnaa.Num Go.Proofs.Ytdogliilbgnbnaa.YCrc Go.Proofs.Ytdogliilbgnbnaa.XCrc Go.Proofs.YtdogliilbgnbnaaW.PrintWords Go.Proofs.YtdogliilbgnbnaaW.PrintLast

theorem FnExactFrameOf : laws_FnExactFrameOf.Pure := by
  intro l _ _ hw
  refine Ev.rounds (g := fun k => laws_FnExactFrameOf.f k l) ?_
  have hb : ∀ b ∈ l, 0 ≤ b ∧ b < 256 := fun b h => wf_u8 (hw b h)
  unfold laws_FnExactFrameOf.f
  by_cases hl : (l.length : Int) > 1048576
  · simp only [if_pos hl]; exact Ev.now _
  · simp only [if_neg hl]
    have hr := frameR_length l
    have hi := impl_FrameOf' l hb
    have ht := toByteS l (by omega)
    have he := eqByteS_same (frameR l).1 (by omega)
    have hm := markByteS (frameR l).1 1 (by omega) (by omega) (by omega)
    have hh := heldByteS 1 (frameR l).1.length (by omega) (by omega) (by omega)
    refine Ev.bind ht (Ev.bind (spec_FrameOf' l hb) (Ev.bind ht (Ev.bind hi (Ev.bind he ?_))))
    simp only [if_true, bne_self_eq_false]
    refine Ev.step (fun k => by simp only [laws_FnExactFrameOf.j0]; exact rfl) ?_
    simp only [Bool.false_eq_true, if_false]
    refine Ev.bind ht (Ev.bind (eqByteS_same l (by omega)) ?_)
    simp only [if_true]
    refine Ev.bind (markByteS l 1 (by omega) (by omega) (by omega)) ?_
    simp only [if_neg (show ¬ (1 + (l.length : Int)) < 0 by omega)]
    refine Ev.bind he ?_
    simp only [if_true, bne_self_eq_false]
    refine Ev.step (fun k => by simp only [laws_FnExactFrameOf.j1]; exact rfl) ?_
    simp only [Bool.false_eq_true, if_false]
    refine Ev.bind hm (Ev.bind hh ?_)
    simp only [if_neg (show ¬ (1 + ((frameR l).1.length : Int)) < 0 by omega), if_true]
    refine Ev.bind ht (Ev.bind hi (Ev.bind he ?_))
    simp only [if_true, bne_self_eq_false]
    refine Ev.step (fun k => by simp only [laws_FnExactFrameOf.j2]; exact rfl) ?_
    simp only [Bool.false_eq_true, if_false]
    refine Ev.bind hh ?_
    simp only [if_neg (show ¬ (1 + ((frameR l).1.length : Int)) < 0 by omega), if_true]
    exact Ev.now _
end Go.Proofs.Ytdogliilbgnbnaa.Pure
