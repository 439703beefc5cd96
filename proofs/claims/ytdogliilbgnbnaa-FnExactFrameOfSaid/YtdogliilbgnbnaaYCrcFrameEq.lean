/- The program's frame and the reference's are one list of bytes, for all payloads of at most 2000; no condition beside. -/
import Derived.Test.YtdogliilbgnbnaaYCrcCrcEq
namespace Go.Proofs.Ytdogliilbgnbnaa.YCrc
open Go.RowKit Go.Proofs.Ytdogliilbgnbnaa.Num Go.Proofs.Ytdogliilbgnbnaa.XCrc Go.Proofs.YtdogliilbgnbnaaW.PrintWords Go.Proofs.YtdogliilbgnbnaaW.PrintLast

/- so many bytes of a number, the highest first -/
def bigL (n : Int) : Nat → List Int
  | 0 => []
  | m + 1 => n / 256 ^ m % 256 :: bigL n m
theorem bigL_length (n : Int) (m : Nat) : (bigL n m).length = m := by induction m with
  | zero => rfl
  | succ m ih => simp [bigL, ih]
theorem bigL_getD (n : Int) (m : Nat) : ∀ j, j < m → (bigL n m).getD j 0 = n / 256 ^ (m - 1 - j) % 256 := by
  induction m with
  | zero => intro j h; omega
  | succ m ih =>
    intro j h
    cases j with
    | zero => simp [bigL]
    | succ j =>
      have := ih j (by omega)
      rw [show m + 1 - 1 - (j + 1) = m - 1 - j from by omega, ← this]
      simp [bigL]
theorem bigL_range (n : Int) (m : Nat) : ∀ b ∈ bigL n m, 0 ≤ b ∧ b < 256 := by
  induction m with
  | zero => intro b h; simp [bigL] at h
  | succ m ih =>
    intro b h
    simp only [bigL, List.mem_cons] at h
    rcases h with rfl | h
    · exact ⟨by omega, by omega⟩
    · exact ih b h

theorem pow256 (i : Nat) : (2 : Int) ^ (8 * i) = 256 ^ i := by rw [Int.pow_mul]; rfl

theorem big_l0 (n : Int) (m : Nat) (hm : m ≤ 8) (d : Nat) : ∀ (i : Nat) (x : List Int), x.length = m → i + d = m → (∀ j, j < m → x.getD j 0 = if m - 1 - j < i then n / 256 ^ (m - 1 - j) % 256 else 0) → Ev (fun k => impl_big.l0 k n (m : Int) x (m : Int) (i : Int)) (bigL n m) := by
  induction d with
  | zero =>
    intro i x hl hd he
    refine Ev.step (f := fun _ => some x) (fun k => ?_) ?_
    · simp only [impl_big.l0]; rw [if_neg (by omega)]
    · refine Ev.eq (Ev.now _) (ext_getD (by rw [hl, bigL_length]) (fun j hj => ?_))
      rw [he j (by omega), if_pos (by omega), bigL_getD n m j (by omega)]
  | succ d ih =>
    intro i x hl hd he
    have e1 : wrap64 (8 * (i : Int)) = ((8 * i : Nat) : Int) := by rw [w64 (by omega) (by omega)]; omega
    have e2 : wrap64 (wrap64 ((m : Int) - 1) - (i : Int)) = ((m - 1 - i : Nat) : Int) := by rw [w64 (n := (m : Int) - 1) (by omega) (by omega), w64 (by omega) (by omega)]; omega
    refine Ev.step (fun k => ?_) (ih (i + 1) (x.set (m - 1 - i) (n / 256 ^ i % 256)) (by simpa using hl) (by omega) ?_)
    · simp only [impl_big.l0]
      rw [e1, e2, if_pos (by omega), if_pos (by omega), if_pos (by omega), if_pos (by omega), w64 (n := (i : Int) + 1) (by omega) (by omega), Int.toNat_natCast]
      rw [show shr .i64 n ((8 * i : Nat) : Int) = n / 256 ^ i from by
        show n / 2 ^ min ((8 * i : Nat) : Int).toNat 64 = _
        rw [Int.toNat_natCast, show min (8 * i) 64 = 8 * i from by omega, pow256]]
      rfl
    · intro j hj
      rw [getD_set _ _ _ _ (by omega)]
      by_cases h : j = m - 1 - i
      · rw [if_pos h, if_pos (by omega), show m - 1 - j = i from by omega]
      · rw [if_neg h, he j hj]
        by_cases h2 : m - 1 - j < i
        · rw [if_pos h2, if_pos (by omega)]
        · rw [if_neg h2, if_neg (by omega)]

theorem big (n : Int) (m : Nat) (hm : m ≤ 8) : Ev (fun k => impl_big.f k n (m : Int)) (bigL n m) := by
  unfold impl_big.f
  simp only [if_pos (show 0 ≤ (m : Int) by omega), Int.toNat_natCast, if_pos (show m ≤ 281474976710656 by omega), Option.bind_some, List.length_replicate]
  exact big_l0 n m hm m 0 (List.replicate m 0) (by simp) (by omega) (fun j hj => by
    rw [if_neg (by omega)]; simp [List.getD_eq_getElem?_getD, hj])

/- a frame -/
def headL (l : List Int) : List Int := bigL ((l.length : Int) + 1) 2 ++ l
def frameL (l : List Int) : List Int := headL l ++ bigL (crcV (headL l)) 4
theorem headL_length (l : List Int) : (headL l).length = l.length + 2 := by simp [headL, bigL_length]; omega
theorem frameL_length (l : List Int) : (frameL l).length = l.length + 6 := by simp [frameL, bigL_length, headL_length]
theorem headL_range {l : List Int} (h : ∀ b ∈ l, 0 ≤ b ∧ b < 256) : ∀ b ∈ headL l, 0 ≤ b ∧ b < 256 := by
  intro b hb
  simp only [headL, List.mem_append] at hb
  rcases hb with hb | hb
  · exact bigL_range _ _ b hb
  · exact h b hb

theorem impl_frame' (l : List Int) (hn : l.length ≤ 1048576) (hb : ∀ b ∈ l, 0 ≤ b ∧ b < 256) : Ev (fun k => impl_frame.f k l) (frameL l) := by
  unfold impl_frame.f
  rw [w64 (n := (l.length : Int) + 1) (by omega) (by omega)]
  have hh := headL_length l
  have hlt := crcV_lt (headL l) (headL_range hb)
  refine Ev.bind (big _ 2 (by omega)) ?_
  simp only [bigL_length]
  simp only [if_pos (show 2 + l.length < 140737488355328 by omega), Option.bind_some]
  refine Ev.bind (impl_crc' (headL l) (by omega) (headL_range hb)) (Ev.bind (big _ 4 (by omega)) ?_)
  simp only [bigL_length]
  have : (bigL ((l.length : Int) + 1) 2 ++ l).length + 4 < 140737488355328 := by change (headL l).length + 4 < _; omega
  simp only [if_pos this]
  exact Ev.now _

theorem spec_frame' (l : List Int) (hn : l.length ≤ 2000) (hb : ∀ b ∈ l, 0 ≤ b ∧ b < 256) : Ev (fun k => spec_l02Frame.f k l) (frameL l) := by
  unfold spec_l02Frame.f
  rw [w64 (n := (l.length : Int) + 1) (by omega) (by omega)]
  have hh := headL_length l
  have hlt := crcV_lt (headL l) (headL_range hb)
  have e : ([wrap64 (Int.tdiv ((l.length : Int) + 1) 256) % 256, Int.tmod ((l.length : Int) + 1) 256 % 256] : List Int) = bigL ((l.length : Int) + 1) 2 := by
    rw [Int.tdiv_eq_ediv_of_nonneg (by omega), Int.tmod_eq_emod_of_nonneg (by omega), w64 (by omega) (by omega)]
    simp [bigL]
  simp only [Option.bind_some, e, bigL_length]
  simp only [if_pos (show 2 + l.length < 140737488355328 by omega)]
  refine Ev.bind (spec_crc (headL l) (by omega) (headL_range hb)) ?_
  have c0 : (0 : Int) ≤ (crcV (headL l) : Int) := by omega
  generalize hc : (crcV (headL l) : Int) = c at *
  have hc1 : c < 4294967296 := by omega
  have e4 : ([wrap64 (Int.tdiv c 16777216) % 256, Int.tmod (wrap64 (Int.tdiv c 65536)) 256 % 256, Int.tmod (wrap64 (Int.tdiv c 256)) 256 % 256, Int.tmod c 256 % 256] : List Int) = bigL c 4 := by
    rw [Int.tdiv_eq_ediv_of_nonneg c0, Int.tdiv_eq_ediv_of_nonneg c0, Int.tdiv_eq_ediv_of_nonneg c0, w64 (n := c / 16777216) (by omega) (by omega), w64 (n := c / 65536) (by omega) (by omega), w64 (n := c / 256) (by omega) (by omega), Int.tmod_eq_emod_of_nonneg (by omega), Int.tmod_eq_emod_of_nonneg (by omega), Int.tmod_eq_emod_of_nonneg (by omega)]
    simp [bigL]
  rw [e4, bigL_length]
  have : (bigL ((l.length : Int) + 1) 2 ++ l).length + 4 < 140737488355328 := by change (headL l).length + 4 < _; omega
  simp only [if_pos this]
  refine Ev.eq (Ev.now _) ?_
  unfold frameL; rw [hc]; rfl

def frameR (l : List Int) : List Int × Int := if 65536 < l.length then ([], 2) else if 2000 < l.length then ([], 4) else (frameL l, 0)
theorem frameR_length (l : List Int) : (frameR l).1.length ≤ 2006 := by
  unfold frameR; split
  · simp
  · split
    · simp
    · simp [frameL_length]; omega
theorem spec_FrameOf' (l : List Int) (hb : ∀ b ∈ l, 0 ≤ b ∧ b < 256) : Ev (fun k => spec_FrameOf.f k l) (frameR l) := by
  unfold spec_FrameOf.f frameR
  by_cases h : 65536 < l.length
  · simp only [if_pos h, if_pos (show (l.length : Int) > 65536 by omega)]; exact Ev.now _
  · simp only [if_neg h, if_neg (show ¬ (l.length : Int) > 65536 by omega)]
    by_cases h2 : 2000 < l.length
    · simp only [if_pos h2, if_pos (show (l.length : Int) > 2000 by omega)]; exact Ev.now _
    · simp only [if_neg h2, if_neg (show ¬ (l.length : Int) > 2000 by omega)]
      exact Ev.bind (spec_frame' l (by omega) hb) (Ev.now _)
theorem impl_FrameOf' (l : List Int) (hb : ∀ b ∈ l, 0 ≤ b ∧ b < 256) : Ev (fun k => impl_FrameOf.f k l) (frameR l) := by
  unfold impl_FrameOf.f impl_isShort_byte.f frameR
  by_cases h : 65536 < l.length
  · simp only [if_pos h, Option.bind_some]; rw [decide_eq_false (by omega)]; exact Ev.now _
  · simp only [if_neg h, Option.bind_some]; rw [decide_eq_true (by omega)]
    by_cases h2 : 2000 < l.length
    · simp only [if_pos h2, if_pos (show (l.length : Int) > 2000 by omega), if_true]; exact Ev.now _
    · simp only [if_neg h2, if_neg (show ¬ (l.length : Int) > 2000 by omega), if_true]
      exact Ev.bind (impl_frame' l (by omega) hb) (Ev.now _)
end Go.Proofs.Ytdogliilbgnbnaa.YCrc
