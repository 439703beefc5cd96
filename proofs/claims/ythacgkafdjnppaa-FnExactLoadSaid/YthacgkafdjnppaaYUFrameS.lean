/- Plain facts: the reference's frame of a payload; no condition but the size. -/
import Derived.Test.YthacgkafdjnppaaYUCrcEq
import Derived.Test.YthacgkafdjnppaaYLoopsBig
namespace Go.Proofs.Ythacgkafdjnppaa.YU
open Go.RowKit Go.Proofs.Ythacgkafdjnppaa.Num Go.Proofs.Ythacgkafdjnppaa.Loops Go.Proofs.Ythacgkafdjnppaa.XU Go.Proofs.YthacgkafdjnppaaW.PrintWords Go.Proofs.YthacgkafdjnppaaW.PrintLast
def headL (l : List Int) : List Int := bigL ((l.length : Int) + 1) 2 ++ l
def frameL (l : List Int) : List Int := headL l ++ bigL (crcV (headL l)) 4
theorem headL_length (l : List Int) : (headL l).length = l.length + 2 := by simp [headL, bigL_length]; omega
theorem frameL_length (l : List Int) : (frameL l).length = l.length + 6 := by simp [frameL, bigL_length, headL_length]
theorem headL_range {l : List Int} (h : ∀ b ∈ l, 0 ≤ b ∧ b < 256) : ∀ b ∈ headL l, 0 ≤ b ∧ b < 256 := by
  intro b hb
  simp only [headL, List.mem_append] at hb
  rcases hb with hb | hb
  · exact bigL_range _ _ b hb
  · exact h b hb
theorem spec_frame' (l : List Int) (hn : l.length ≤ 2000) (hb : ∀ b ∈ l, 0 ≤ b ∧ b < 256) : Ev (fun k => spec_l02Frame.f k l) (frameL l) := by
  unfold spec_l02Frame.f
  rw [w64 (n := (l.length : Int) + 1) (by omega) (by omega)]
  have hh := headL_length l
  have hlt := crcV_lt (headL l) (headL_range hb)
  have e : ([wrap64 (Int.tdiv ((l.length : Int) + 1) 256) % 256, Int.tmod ((l.length : Int) + 1) 256 % 256] : List Int) = bigL ((l.length : Int) + 1) 2 := by
    rw [Int.tdiv_eq_ediv_of_nonneg (by omega), Int.tmod_eq_emod_of_nonneg (by omega), w64 (by omega) (by omega)]
    simp [bigL]
  simp only [Option.bind_some, e, bigL_length]
  simp only [if_pos (show 2 + l.length < 140737488355328 by omega)]
  refine Ev.bind (spec_crc (headL l) (by omega) (headL_range hb)) ?_
  have c0 : (0 : Int) ≤ (crcV (headL l) : Int) := by omega
  generalize hc : (crcV (headL l) : Int) = c at *
  have hc1 : c < 4294967296 := by omega
  have e4 : ([wrap64 (Int.tdiv c 16777216) % 256, Int.tmod (wrap64 (Int.tdiv c 65536)) 256 % 256, Int.tmod (wrap64 (Int.tdiv c 256)) 256 % 256, Int.tmod c 256 % 256] : List Int) = bigL c 4 := by
    rw [Int.tdiv_eq_ediv_of_nonneg c0, Int.tdiv_eq_ediv_of_nonneg c0, Int.tdiv_eq_ediv_of_nonneg c0, w64 (n := c / 16777216) (by omega) (by omega), w64 (n := c / 65536) (by omega) (by omega), w64 (n := c / 256) (by omega) (by omega), Int.tmod_eq_emod_of_nonneg (by omega), Int.tmod_eq_emod_of_nonneg (by omega), Int.tmod_eq_emod_of_nonneg (by omega)]
    simp [bigL]
  rw [e4, bigL_length]
  have : (bigL ((l.length : Int) + 1) 2 ++ l).length + 4 < 140737488355328 := by change (headL l).length + 4 < _; omega
  simp only [if_pos this]
  refine Ev.eq (Ev.now _) ?_
  unfold frameL; rw [hc]; rfl
end Go.Proofs.Ythacgkafdjnppaa.YU
