/- Plain facts: both scans, from the first place to the last; no condition but the size. -/
import Derived.Test.YthacgkafdjnppaaYUScanEq
namespace Go.Proofs.Ythacgkafdjnppaa.YU
open Go.RowKit Go.Proofs.Ythacgkafdjnppaa.Num Go.Proofs.Ythacgkafdjnppaa.Loops Go.Proofs.Ythacgkafdjnppaa.XU Go.Proofs.YthacgkafdjnppaaW.PrintWords Go.Proofs.YthacgkafdjnppaaW.PrintLast
theorem isin (a b c : Int) : impl_within.f a b c = some (decide (b ≤ a) && decide (a ≤ c)) := by
  unfold impl_within.f
  by_cases h : b ≤ a <;> simp [h]
theorem nxt_some (b : List Int) (at_ : Nat) (p : List Int) (h : nxt b at_ = some p) : at_ + p.length + 6 ≤ b.length ∧ p.length ≤ 2000 ∧ p = (b.drop (at_ + 2)).take p.length := by
  unfold nxt at h
  by_cases c : at_ + 2 ≤ b.length ∧ 1 ≤ b.getD at_ 0 * 256 + b.getD (at_ + 1) 0 ∧ b.getD at_ 0 * 256 + b.getD (at_ + 1) 0 ≤ 2001 ∧ (at_ : Int) + (b.getD at_ 0 * 256 + b.getD (at_ + 1) 0) + 5 ≤ b.length
  · rw [if_pos c] at h
    split at h
    · have e := Option.some.inj h
      have hl : p.length = (b.getD at_ 0 * 256 + b.getD (at_ + 1) 0).toNat - 1 := by rw [← e, List.length_take, List.length_drop]; omega
      exact ⟨by omega, by omega, by rw [hl]; exact e.symm⟩
    · cases h
  · rw [if_neg c] at h; cases h
section
variable (b : List Int) (hb : ∀ x ∈ b, 0 ≤ x ∧ x < 256) (hn : b.length ≤ 65536)
include hb hn
theorem impl_round (out : List (List Int)) (ho : out.length < 5864062014805) (at_ : Nat) (ha : at_ ≤ b.length) (r : List (List Int) × Int)
    (h : Ev (fun k => match nxt b at_ with | some p => impl_scan.l0 k b (out ++ [p]) ((at_ + p.length + 6 : Nat) : Int) | none => some (out, (at_ : Int))) r) : Ev (fun k => impl_scan.l0 k b out (at_ : Int)) r := by
  have e2 : wrap64 ((at_ : Int) + 2) = ((at_ + 2 : Nat) : Int) := by rw [w64 (by omega) (by omega)]; rfl
  refine Ev.step (fun k => by simp only [impl_scan.l0, e2]; exact rfl) ?_
  unfold nxt at h
  by_cases c1 : at_ + 2 ≤ b.length
  · have h0 := hb _ (getD_mem b 0 at_ (by omega))
    have h1 := hb _ (getD_mem b 0 (at_ + 1) (by omega))
    obtain ⟨v, hv⟩ : ∃ v : Nat, (v : Int) = b.getD at_ 0 * 256 + b.getD (at_ + 1) 0 := ⟨(b.getD at_ 0 * 256 + b.getD (at_ + 1) 0).toNat, by omega⟩
    simp only [if_pos (show ((at_ + 2 : Nat) : Int) ≤ (b.length : Int) by omega), if_pos (show 0 ≤ (at_ : Int) by omega), if_pos (show (at_ : Int) ≤ ((at_ + 2 : Nat) : Int) by omega), Int.toNat_natCast]
    have es : (b.take (at_ + 2)).drop at_ = [b.getD at_ 0, b.getD (at_ + 1) 0] := by
      rw [List.drop_take, show at_ + 2 - at_ = 2 from by omega, drop_cons b 0 at_ (by omega), drop_cons b 0 (at_ + 1) (by omega)]
      rfl
    rw [es]
    refine Ev.bind (bigOf [b.getD at_ 0, b.getD (at_ + 1) 0] (by intro x hx; simp only [List.mem_cons, List.not_mem_nil, or_false] at hx; rcases hx with rfl | rfl; exact h0; exact h1) (by simp)) ?_
    have en : numL [b.getD at_ 0, b.getD (at_ + 1) 0] 0 = (v : Int) := by simp only [numL]; omega
    have ew : wrap64 ((v : Int) - 1) = (v : Int) - 1 := by clear en es; rw [w64 (by omega) (by omega)]
    rw [en, ew, isin]
    clear en es ew
    rw [← hv] at h
    simp only [Option.bind_some]
    by_cases c2 : 1 ≤ (v : Int)
    · by_cases c3 : (v : Int) ≤ 2001
      · rw [decide_eq_true (show 0 ≤ (v : Int) - 1 by omega), decide_eq_true (show (v : Int) - 1 ≤ 2000 by omega)]
        refine ev_pos (by rfl) ?_
        have ee : wrap64 (((at_ + 2 : Nat) : Int) + ((v : Int) - 1)) = ((at_ + 2 + (v - 1) : Nat) : Int) := by rw [w64 (by omega) (by omega)]; omega
        have e4 : wrap64 (((at_ + 2 + (v - 1) : Nat) : Int) + 4) = ((at_ + 2 + (v - 1) + 4 : Nat) : Int) := by rw [w64 (by omega) (by omega)]; rfl
        rw [ee, e4]
        by_cases c4 : (at_ : Int) + v + 5 ≤ b.length
        · rw [if_pos (show at_ + 2 ≤ b.length ∧ 1 ≤ (v : Int) ∧ (v : Int) ≤ 2001 ∧ (at_ : Int) + v + 5 ≤ b.length from ⟨c1, c2, c3, c4⟩)] at h
          simp only [Int.toNat_natCast] at h
          have s1 : (b.take (((at_ + 2 + (v - 1) : Nat) : Int)).toNat).drop at_ = (b.drop at_).take (v + 1) := by rw [Int.toNat_natCast, List.drop_take]; congr 1; omega
          have s2 : (b.take (((at_ + 2 + (v - 1) + 4 : Nat) : Int)).toNat).drop (((at_ + 2 + (v - 1) : Nat) : Int)).toNat = (b.drop (at_ + 2 + (v - 1))).take 4 := by rw [Int.toNat_natCast, Int.toNat_natCast, List.drop_take]; congr 1; omega
          have s3 : (b.take (((at_ + 2 + (v - 1) : Nat) : Int)).toNat).drop (at_ + 2) = (b.drop (at_ + 2)).take (v - 1) := by rw [Int.toNat_natCast, List.drop_take]; congr 1; omega
          have l1 : ((b.drop at_).take (v + 1)).length = v + 1 := by rw [List.length_take, List.length_drop]; omega
          have l2 : ((b.drop (at_ + 2 + (v - 1))).take 4).length = 4 := by rw [List.length_take, List.length_drop]; omega
          have l3 : ((b.drop (at_ + 2)).take (v - 1)).length = v - 1 := by rw [List.length_take, List.length_drop]; omega
          have r1 := take_range b hb at_ (v + 1)
          have r2 := take_range b hb (at_ + 2 + (v - 1)) 4
          rw [s1, s2, s3]
          have hlt := crcV_lt _ r1
          have key := num_big4 _ (crcV ((b.drop at_).take (v + 1)) : Int) l2 r2 (by omega) (by omega)
          have hcl : slices_Clone_byte_byte.f ((b.drop (at_ + 2)).take (v - 1)) = some ((b.drop (at_ + 2)).take (v - 1)) := by
            unfold slices_Clone_byte_byte.f
            rw [if_pos (by rw [l3]; omega)]
          rw [hcl]
          have h1c := impl_crc' _ (by rw [l1]; omega) r1
          have h2c := bigOf _ r2 (by rw [l2]; omega)
          generalize (b.drop (at_ + 2 + (v - 1))).take 4 = four at *
          generalize (b.drop (at_ + 2)).take (v - 1) = pay at *
          generalize (b.drop at_).take (v + 1) = hd at *
          refine ev_neg (show ¬ ((at_ + 2 + (v - 1) + 4 : Nat) : Int) > (b.length : Int) by omega) ?_
          refine ev_pos (show (at_ : Int) ≤ ((at_ + 2 + (v - 1) : Nat) : Int) by omega) (ev_pos (show ((at_ + 2 + (v - 1) : Nat) : Int) ≤ (b.length : Int) by omega) ?_)
          refine Ev.bind h1c ?_
          refine ev_pos (show 0 ≤ ((at_ + 2 + (v - 1) : Nat) : Int) by omega) (ev_pos (show ((at_ + 2 + (v - 1) : Nat) : Int) ≤ ((at_ + 2 + (v - 1) + 4 : Nat) : Int) by omega) (ev_pos (show ((at_ + 2 + (v - 1) + 4 : Nat) : Int) ≤ (b.length : Int) by omega) ?_))
          refine Ev.bind h2c ?_
          by_cases c5 : four = bigL (crcV hd) 4
          · refine ev_pos (key.2 c5).symm (ev_pos (show 0 ≤ ((at_ + 2 : Nat) : Int) by omega) (ev_pos (show ((at_ + 2 : Nat) : Int) ≤ ((at_ + 2 + (v - 1) : Nat) : Int) by omega) (ev_now (ev_pos ho ?_))))
            simp only [if_pos c5, l3] at h
            rw [show at_ + 2 + (v - 1) + 4 = at_ + (v - 1) + 6 from by omega]
            exact h
          · refine ev_neg (fun e => c5 (key.1 e.symm)) ?_
            simp only [if_neg c5] at h
            exact h
        · refine ev_pos (show ((at_ + 2 + (v - 1) + 4 : Nat) : Int) > (b.length : Int) by omega) ?_
          rw [if_neg (fun h => c4 h.2.2.2)] at h
          exact h
      · rw [decide_eq_true (show 0 ≤ (v : Int) - 1 by omega), decide_eq_false (show ¬ (v : Int) - 1 ≤ 2000 by omega)]
        simp only [Bool.and_false, Bool.false_eq_true, if_false]
        rw [if_neg (fun h => c3 h.2.2.1)] at h
        exact h
    · rw [decide_eq_false (show ¬ 0 ≤ (v : Int) - 1 by omega)]
      simp only [Bool.false_and, Bool.false_eq_true, if_false]
      rw [if_neg (fun h => c2 h.2.1)] at h
      exact h
  · simp only [if_neg (show ¬ ((at_ + 2 : Nat) : Int) ≤ (b.length : Int) by omega)]
    rw [if_neg (fun h => c1 h.1)] at h
    exact h
theorem scans (f : Nat) : ∀ (out : List (List Int)) (at_ : Nat), at_ ≤ b.length → b.length < at_ + f → out.length ≤ at_ → (∀ s ∈ out, s.length ≤ 2000 ∧ ∀ x ∈ s, x ∈ b) →
    ∃ R : List (List Int) × Int, Ev (fun k => impl_scan.l0 k b out (at_ : Int)) R ∧ Ev (fun k => spec_l02Scan.l0 k b out (at_ : Int)) R ∧ R.1.length ≤ b.length ∧ ∀ s ∈ R.1, s.length ≤ 2000 ∧ ∀ x ∈ s, x ∈ b := by
  induction f with
  | zero => intro out at_ h1 h2; omega
  | succ f ih =>
    intro out at_ h1 h2 h3 h4
    have hs := spec_next b hb hn at_ h1
    cases hx : nxt b at_ with
    | none =>
      rw [hx] at hs
      refine ⟨(out, at_), impl_round b hb hn out (by omega) at_ h1 _ (by rw [hx]; exact Ev.now _), ?_, by simp only; omega, h4⟩
      refine Ev.step (fun k => by simp only [spec_l02Scan.l0]; exact rfl) (Ev.bind hs ?_)
      simp only [Bool.false_eq_true, if_false]
      exact Ev.now _
    | some p =>
      rw [hx] at hs
      obtain ⟨p1, p2, p3⟩ := nxt_some b at_ p hx
      obtain ⟨R, i1, i2, i3, i4⟩ := ih (out ++ [p]) (at_ + p.length + 6) (by omega) (by omega) (by simp; omega) (by
        intro s hs
        rcases List.mem_append.1 hs with h | h
        · exact h4 s h
        · rw [List.mem_singleton.1 h]; exact ⟨p2, fun x hx => by rw [p3] at hx; exact List.mem_of_mem_drop (List.mem_of_mem_take hx)⟩)
      refine ⟨R, impl_round b hb hn out (by omega) at_ h1 _ (by rw [hx]; exact i1), ?_, i3, i4⟩
      refine Ev.step (fun k => by simp only [spec_l02Scan.l0]; exact rfl) (Ev.bind hs ?_)
      simp only [if_true, if_pos (show out.length < 5864062014805 by omega)]
      rw [w64 (n := (p.length : Int) + 6) (by omega) (by omega), w64 (by omega) (by omega), show (at_ : Int) + ((p.length : Int) + 6) = ((at_ + p.length + 6 : Nat) : Int) from by omega]
      exact i2
end
theorem scan_both (b : List Int) (hb : ∀ x ∈ b, 0 ≤ x ∧ x < 256) (hn : b.length ≤ 65536) : ∃ R : List (List Int) × Int, Ev (fun k => impl_scan.f k b) R ∧ Ev (fun k => spec_l02Scan.f k b) R ∧ R.1.length ≤ b.length ∧ ∀ s ∈ R.1, s.length ≤ 2000 ∧ ∀ x ∈ s, x ∈ b := by
  obtain ⟨R, h1, h2, h3⟩ := scans b hb hn (b.length + 1) [] 0 (by omega) (by omega) (by simp) (fun s hs => by cases hs)
  exact ⟨R, by simpa [impl_scan.f] using h1, by simpa [spec_l02Scan.f] using h2, h3⟩
end Go.Proofs.Ythacgkafdjnppaa.YU
