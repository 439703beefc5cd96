/- Plain facts: the program's scan of frames and the reference's come to the same payloads and the same place, for all bytes of at most 2 to the 20; no condition beside. -/
import Derived.Test.YthacgkafdjnppaaYUFrameS
import Derived.Test.YthacgkafdjnppaaYLoops
namespace Go.Proofs.Ythacgkafdjnppaa.YU
open Go.RowKit Go.Proofs.Ythacgkafdjnppaa.Num Go.Proofs.Ythacgkafdjnppaa.Loops Go.Proofs.Ythacgkafdjnppaa.XU Go.Proofs.YthacgkafdjnppaaW.PrintWords Go.Proofs.YthacgkafdjnppaaW.PrintLast
theorem i64_or_nat (a b : Nat) (ha : a < 4611686018427387904) (hb : b < 4611686018427387904) : Go.bits .or .i64 (a : Int) (b : Int) = ((a ||| b : Nat) : Int) := by
  have hx : a ||| b < 2 ^ 62 := Nat.or_lt_two_pow (by omega) (by omega)
  show IntKind.i64.wrap ((BitVec.ofInt 64 (a : Int) ||| BitVec.ofInt 64 (b : Int)).toNat : Int) = _
  rw [BitVec.toNat_or, ofInt_u64 a (by omega), ofInt_u64 b (by omega)]
  simp [IntKind.wrap, IntKind.bits, IntKind.signed]
  omega
theorem or_byte (a b : Nat) (ha : a < 4294967296) (hb : b < 256) : Go.bits .or .i64 ((a : Int) * 256) (b : Int) = (a : Int) * 256 + b := by
  have h1 : ((a : Int) * (256 : Int)) = ((a <<< 8 : Nat) : Int) := by rw [Nat.shiftLeft_eq]; omega
  show Go.bits .or .i64 ((a : Int) * (256 : Int)) (b : Int) = (a : Int) * (256 : Int) + b
  rw [h1, i64_or_nat _ _ (by rw [Nat.shiftLeft_eq]; omega) (by omega), ← Nat.shiftLeft_add_eq_or_of_lt (show b < 2 ^ 8 by omega)]
  omega
def numL : List Int → Int → Int
  | [], n => n
  | b :: l, n => numL l (n * 256 + b)
theorem bigOf_l0 (l : List Int) (hb : ∀ b ∈ l, 0 ≤ b ∧ b < 256) (d : Nat) (hd4 : l.length ≤ 4) : ∀ (i n : Nat), i + d = l.length → n < 256 ^ i → Ev (fun k => impl_bigOf.l0 k (n : Int) l (l.length : Int) (i : Int)) (numL (l.drop i) (n : Int)) := by
  induction d with
  | zero =>
    intro i n hd hn
    refine Ev.step (f := fun _ => some (n : Int)) (fun k => ?_) ?_
    · simp only [impl_bigOf.l0]; rw [if_neg (by omega)]
    · rw [List.drop_of_length_le (by omega)]; exact Ev.now _
  | succ d ih =>
    intro i n hd hn
    have hi : i ≤ 3 := by omega
    have hm := hb _ (getD_mem l 0 i (by omega))
    have hn3 : n < 16777216 := Nat.lt_of_lt_of_le hn (Nat.le_trans (Nat.pow_le_pow_right (by decide) hi) (by decide))
    rw [drop_cons l 0 i (by omega)]
    obtain ⟨b, hbe⟩ : ∃ b : Nat, (b : Int) = l.getD i 0 := ⟨(l.getD i 0).toNat, by omega⟩
    rw [← hbe] at hm ⊢
    have e : ((n * 256 + b : Nat) : Int) = (n : Int) * 256 + (b : Int) := by omega
    refine Ev.step (fun k => ?_) (Ev.eq (ih (i + 1) (n * 256 + b) (by omega) (by rw [Nat.pow_succ]; omega)) (by rw [e]; rfl))
    simp only [impl_bigOf.l0]
    rw [if_pos (by omega), if_pos (by omega), if_pos (by omega), rd_nat, ← hbe, w64 (n := (n : Int) * 256) (by omega) (by omega), w64 (n := (b : Int)) (by omega) (by omega), or_byte n b (by omega) (by omega), w64 (by omega) (by omega), e]
    rfl
theorem bigOf (l : List Int) (hb : ∀ b ∈ l, 0 ≤ b ∧ b < 256) (h4 : l.length ≤ 4) : Ev (fun k => impl_bigOf.f k l) (numL l 0) := by
  unfold impl_bigOf.f
  exact bigOf_l0 l hb l.length h4 0 0 (by omega) (by simp)
theorem big4 (n : Int) : bigL n 4 = [n / 16777216 % 256, n / 65536 % 256, n / 256 % 256, n % 256] := by
  simp [bigL]
theorem num_big4 (l : List Int) (n : Int) (h : l.length = 4) (hb : ∀ b ∈ l, 0 ≤ b ∧ b < 256) (h0 : 0 ≤ n) (h1 : n < 4294967296) : numL l 0 = n ↔ l = bigL n 4 := by
  match l, h with
  | [a, b, c, d], _ =>
    have ha := hb a (by simp)
    have hb' := hb b (by simp)
    have hc := hb c (by simp)
    have hd := hb d (by simp)
    rw [big4]
    simp only [numL, List.cons.injEq, and_true]
    omega
def nxt (b : List Int) (at_ : Nat) : Option (List Int) :=
  if at_ + 2 ≤ b.length ∧ 1 ≤ b.getD at_ 0 * 256 + b.getD (at_ + 1) 0 ∧ b.getD at_ 0 * 256 + b.getD (at_ + 1) 0 ≤ 2001 ∧ (at_ : Int) + (b.getD at_ 0 * 256 + b.getD (at_ + 1) 0) + 5 ≤ b.length then
    (if (b.drop (at_ + 2 + ((b.getD at_ 0 * 256 + b.getD (at_ + 1) 0).toNat - 1))).take 4 = bigL (crcV ((b.drop at_).take ((b.getD at_ 0 * 256 + b.getD (at_ + 1) 0).toNat + 1))) 4 then some ((b.drop (at_ + 2)).take ((b.getD at_ 0 * 256 + b.getD (at_ + 1) 0).toNat - 1)) else none)
  else none
section
variable (b : List Int) (hb : ∀ x ∈ b, 0 ≤ x ∧ x < 256) (hn : b.length ≤ 65536)
include hb
theorem take_range (i m : Nat) : ∀ x ∈ (b.drop i).take m, 0 ≤ x ∧ x < 256 := fun x hx => hb x (List.mem_of_mem_drop (List.mem_of_mem_take hx))
theorem head_is (at_ m : Nat) (h : at_ + 2 + m ≤ b.length) (hv : b.getD at_ 0 * 256 + b.getD (at_ + 1) 0 = m + 1) : headL ((b.drop (at_ + 2)).take m) = (b.drop at_).take (m + 2) := by
  have h0 := hb _ (getD_mem b 0 at_ (by omega))
  have h1 := hb _ (getD_mem b 0 (at_ + 1) (by omega))
  have hl : ((b.drop (at_ + 2)).take m).length = m := by rw [List.length_take, List.length_drop]; omega
  unfold headL
  rw [hl, drop_cons b 0 at_ (by omega), drop_cons b 0 (at_ + 1) (by omega), List.take_succ_cons, List.take_succ_cons]
  simp only [bigL, List.cons_append, List.nil_append]
  congr 1
  · omega
  · congr 1
    omega
end
theorem loop4 (x0 : List Int) (x1 x6 : Int) (x7 x8 : List Int) (s t : Nat) (hx0 : s + 4 ≤ x0.length) (hx8 : t + 4 ≤ x8.length) (hs : wrap64 (wrap64 (x1 + 2) + x6) = s) (ht : wrap64 (2 + x6) = t) (hn : x0.length ≤ 65536) (hm : x8.length ≤ 65536) (d : Nat) :
    ∀ i : Nat, i + d = 4 → Ev (fun k => spec_l02Next.l0 k x0 x1 x6 x7 x8 (i : Int)) (if (x0.drop (s + i)).take d = (x8.drop (t + i)).take d then (x7, true) else ([], false)) := by
  induction d with
  | zero =>
    intro i hi
    refine Ev.step (f := fun _ => some (x7, true)) (fun k => ?_) ?_
    · simp only [spec_l02Next.l0]; rw [if_neg (by omega)]
    · rw [if_pos (by simp)]; exact Ev.now _
  | succ d ih =>
    intro i hi
    rw [drop_cons x0 0 (s + i) (by omega), drop_cons x8 0 (t + i) (by omega), List.take_succ_cons, List.take_succ_cons]
    have e1 : wrap64 (wrap64 (wrap64 (x1 + 2) + x6) + (i : Int)) = ((s + i : Nat) : Int) := by rw [hs, w64 (by omega) (by omega)]; omega
    have e2 : wrap64 (wrap64 (2 + x6) + (i : Int)) = ((t + i : Nat) : Int) := by rw [ht, w64 (by omega) (by omega)]; omega
    by_cases c : x0.getD (s + i) 0 = x8.getD (t + i) 0
    · refine Ev.step (fun k => ?_) (Ev.eq (ih (i + 1) (by omega)) ?_)
      · simp only [spec_l02Next.l0]
        rw [if_pos (by omega), e1, e2, if_pos (by omega), if_pos (by omega), if_pos (by omega), if_pos (by omega), rd_nat, rd_nat, if_pos c, inc i (by omega)]
      · simp only [List.cons.injEq, c, true_and]
        rfl
    · refine Ev.step (f := fun _ => some ([], false)) (fun k => ?_) ?_
      · simp only [spec_l02Next.l0]
        rw [if_pos (by omega), e1, e2, if_pos (by omega), if_pos (by omega), if_pos (by omega), if_pos (by omega), rd_nat, rd_nat, if_neg c]
      · rw [if_neg (fun h => c (by injection h))]; exact Ev.now _
section
variable (b : List Int) (hb : ∀ x ∈ b, 0 ≤ x ∧ x < 256) (hn : b.length ≤ 65536)
include hb hn
theorem spec_next (at_ : Nat) (ha : at_ ≤ b.length) : Ev (fun k => spec_l02Next.f k b (at_ : Int)) (match nxt b at_ with | some p => (p, true) | none => ([], false)) := by
  unfold spec_l02Next.f nxt
  have e2 : wrap64 ((at_ : Int) + 2) = ((at_ + 2 : Nat) : Int) := by rw [w64 (by omega) (by omega)]; rfl
  have e1 : wrap64 ((at_ : Int) + 1) = ((at_ + 1 : Nat) : Int) := by rw [w64 (by omega) (by omega)]; rfl
  by_cases c1 : at_ + 2 ≤ b.length
  · have h0 := hb _ (getD_mem b 0 at_ (by omega))
    have h1 := hb _ (getD_mem b 0 (at_ + 1) (by omega))
    obtain ⟨v, hv⟩ : ∃ v : Nat, (v : Int) = b.getD at_ 0 * 256 + b.getD (at_ + 1) 0 := ⟨(b.getD at_ 0 * 256 + b.getD (at_ + 1) 0).toNat, by omega⟩
    have ev : wrap64 (wrap64 (wrap64 (wrap64 (rd b (at_ : Int)) * 256) + wrap64 (rd b ((at_ + 1 : Nat) : Int))) - 1) = (v : Int) - 1 := by
      rw [rd_nat, rd_nat, w64 (n := b.getD at_ 0) (by omega) (by omega), w64 (n := b.getD at_ 0 * 256) (by omega) (by omega), w64 (n := b.getD (at_ + 1) 0) (by omega) (by omega), w64 (n := b.getD at_ 0 * 256 + b.getD (at_ + 1) 0) (by omega) (by omega), w64 (by omega) (by omega), hv]
    have hj : Ev (fun k => spec_l02Next.j0 k b (at_ : Int) ((v : Int) - 1) true) ([], false) := Ev.step (f := fun _ => some ([], false)) (fun k => by simp only [spec_l02Next.j0, if_true]) (Ev.now _)
    simp only [e2, e1, if_neg (show ¬ ((at_ + 2 : Nat) : Int) > (b.length : Int) by omega), if_pos (show 0 ≤ (at_ : Int) by omega), if_pos (show (at_ : Int) < (b.length : Int) by omega), if_pos (show 0 ≤ ((at_ + 1 : Nat) : Int) by omega), if_pos (show ((at_ + 1 : Nat) : Int) < (b.length : Int) by omega), ev, ← hv]
    by_cases c2 : 1 ≤ (v : Int)
    · simp only [if_neg (show ¬ (v : Int) - 1 < 0 by omega)]
      by_cases c3 : (v : Int) ≤ 2001
      · simp only [if_neg (show ¬ (v : Int) - 1 > 2000 by omega)]
        have e6 : wrap64 (wrap64 ((at_ : Int) + ((v : Int) - 1)) + 6) = (at_ : Int) + v + 5 := by rw [w64 (n := (at_ : Int) + ((v : Int) - 1)) (by omega) (by omega), w64 (by omega) (by omega)]; omega
        rw [e6]
        by_cases c4 : (at_ : Int) + v + 5 ≤ b.length
        · rw [if_pos (show at_ + 2 ≤ b.length ∧ 1 ≤ (v : Int) ∧ (v : Int) ≤ 2001 ∧ (at_ : Int) + v + 5 ≤ b.length from ⟨c1, c2, c3, c4⟩), decide_eq_false (show ¬ (at_ : Int) + v + 5 > (b.length : Int) by omega)]
          simp only [Int.toNat_natCast]
          have hl : ((b.drop (at_ + 2)).take (v - 1)).length = v - 1 := by rw [List.length_take, List.length_drop]; omega
          have hh := head_is b hb at_ (v - 1) (by omega) (by omega)
          rw [show v - 1 + 2 = v + 1 from by omega] at hh
          have hr := take_range b hb (at_ + 2) (v - 1)
          have es : wrap64 (((at_ + 2 : Nat) : Int) + ((v : Int) - 1)) = ((at_ + 2 + (v - 1) : Nat) : Int) := by rw [w64 (by omega) (by omega)]; omega
          have hfl := frameL_length ((b.drop (at_ + 2)).take (v - 1))
          rw [hl] at hfl
          have hL := loop4 b (at_ : Int) ((v : Int) - 1) ((b.drop (at_ + 2)).take (v - 1)) (frameL ((b.drop (at_ + 2)).take (v - 1))) (at_ + 2 + (v - 1)) (2 + (v - 1)) (by omega) (by omega) (by rw [e2, es]) (by rw [w64 (by omega) (by omega)]; omega) hn (by omega) 4 0 rfl
          refine Ev.step (fun k => by simp only [spec_l02Next.j0]; rw [if_neg (by decide)]) ?_
          simp only [Option.bind_some, e2, es]
          simp only [if_pos (show 0 ≤ ((at_ + 2 : Nat) : Int) by omega), if_pos (show ((at_ + 2 : Nat) : Int) ≤ ((at_ + 2 + (v - 1) : Nat) : Int) by omega), if_pos (show ((at_ + 2 + (v - 1) : Nat) : Int) ≤ (b.length : Int) by omega), Int.toNat_natCast]
          rw [show (b.take (at_ + 2 + (v - 1))).drop (at_ + 2) = (b.drop (at_ + 2)).take (v - 1) from by rw [List.drop_take]; congr 1; omega]
          simp only [List.length_nil, hl, Nat.zero_add, if_pos (show v - 1 < 140737488355328 by omega), List.nil_append]
          refine Ev.bind (spec_frame' _ (by rw [hl]; omega) hr) (Ev.eq hL ?_)
          rw [show at_ + 2 + (v - 1) + 0 = at_ + 2 + (v - 1) from rfl, show 2 + (v - 1) + 0 = 2 + (v - 1) from rfl]
          have hcut : ((frameL ((b.drop (at_ + 2)).take (v - 1))).drop (2 + (v - 1))).take 4 = bigL (crcV ((b.drop at_).take (v + 1))) 4 := by
            unfold frameL
            rw [hh, List.drop_append_of_le_length (by rw [List.length_take, List.length_drop]; omega), List.drop_of_length_le (by rw [List.length_take, List.length_drop]; omega), List.nil_append, List.take_of_length_le (by rw [bigL_length]; omega)]
          simp only [hcut]
          by_cases c5 : (b.drop (at_ + 2 + (v - 1))).take 4 = bigL (crcV ((b.drop at_).take (v + 1))) 4
          · rw [if_pos c5, if_pos c5]
          · rw [if_neg c5, if_neg c5]
        · rw [if_neg (fun h => c4 h.2.2.2), decide_eq_true (show (at_ : Int) + v + 5 > (b.length : Int) by omega)]
          exact hj
      · simp only [if_pos (show (v : Int) - 1 > 2000 by omega)]
        rw [if_neg (fun h => c3 h.2.2.1)]
        exact hj
    · simp only [if_pos (show (v : Int) - 1 < 0 by omega)]
      rw [if_neg (fun h => c2 h.2.1)]
      exact hj
  · simp only [e2, if_pos (show ((at_ + 2 : Nat) : Int) > (b.length : Int) by omega)]
    rw [if_neg (fun h => c1 h.1)]
    exact Ev.now _
end
end Go.Proofs.Ythacgkafdjnppaa.YU
