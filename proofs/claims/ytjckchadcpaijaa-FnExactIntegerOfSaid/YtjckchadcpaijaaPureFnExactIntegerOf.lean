/- The program's IntegerOf and the reference's give the same tree for every number, and share no memory; no condition beyond the statement's own. -/
import Derived.Test.YtjckchadcpaijaaYIBigEq
namespace Go.Proofs.Ytjckchadcpaijaa.Pure
open Go.RowKit Go.Proofs.Ytjckchadcpaijaa.Num Go.Proofs.Ytjckchadcpaijaa.Loops Go.Proofs.Ytjckchadcpaijaa.YI Go.Proofs.Ytjckchadcpaijaa.XI Go.Proofs.YtjckchadcpaijaaW.PrintWords Go.Proofs.YtjckchadcpaijaaW.PrintLast

theorem and255 (n : Int) : Go.bits .and .i64 n 255 = n % 256 := by
  have h255 : (BitVec.ofInt 64 255).toNat = 2 ^ 8 - 1 := by decide
  have key : (BitVec.ofInt 64 n &&& BitVec.ofInt 64 255).toNat = (n % ((2 ^ 64 : Nat) : Int)).toNat % 2 ^ 8 := by
    rw [BitVec.toNat_and, BitVec.toNat_ofInt, h255, Nat.and_two_pow_sub_one_eq_mod]
  show IntKind.i64.wrap ((BitVec.ofInt 64 n &&& BitVec.ofInt 64 255).toNat : Nat) = n % 256
  rw [key, IntKind.wrap_i64]
  omega

/-- the number without its lowest bytes; a byte; the lowest bytes, the highest of them first -/
def qn (n : Int) : Nat → Int
  | 0 => n
  | j + 1 => qn n j / 256
def bn (n : Int) (j : Nat) : Int := qn n j % 256
def tl (n : Int) : Nat → List Int
  | 0 => []
  | j + 1 => bn n j :: tl n j
theorem bn_range (n : Int) (j : Nat) : 0 ≤ bn n j ∧ bn n j < 256 := by unfold bn; omega
theorem tl_length (n : Int) (j : Nat) : (tl n j).length = j := by induction j with
  | zero => rfl
  | succ j ih => simp [tl, ih]
theorem tl_range (n : Int) (j : Nat) : ∀ x ∈ tl n j, 0 ≤ x ∧ x < 256 := by
  induction j with
  | zero => intro x h; cases h
  | succ j ih =>
    intro x h
    rcases List.mem_cons.1 h with rfl | h
    · exact bn_range n j
    · exact ih x h
theorem qn_pow (n : Int) (j : Nat) : qn n j = n / 256 ^ j := by
  induction j with
  | zero => simp [qn]
  | succ j ih =>
    rw [show qn n (j + 1) = qn n j / 256 from rfl, ih, Int.pow_succ, Int.ediv_ediv_of_nonneg (Int.le_of_lt (Int.pow_pos (by decide)))]
theorem tl_big (n : Int) (j : Nat) : tl n j = bigL n j := by
  induction j with
  | zero => rfl
  | succ j ih => rw [show tl n (j + 1) = bn n j :: tl n j from rfl, ih, show bigL n (j + 1) = n / 256 ^ j % 256 :: bigL n j from rfl, bn, qn_pow]

/-- the bytes up to this one are enough -/
def stop (n : Int) (j : Nat) : Prop := (qn n (j + 1) = 0 ∧ bn n j < 128) ∨ (qn n (j + 1) = -1 ∧ 128 ≤ bn n j)
theorem stop_up (n : Int) (j : Nat) (h : stop n j) : stop n (j + 1) := by
  unfold stop at *
  unfold bn at *
  rw [show qn n (j + 1 + 1) = qn n (j + 1) / 256 from rfl]
  omega
theorem stop_le (n : Int) (j d : Nat) (h : stop n j) : stop n (j + d) := by
  induction d with
  | zero => exact h
  | succ d ih => exact stop_up n _ ih
theorem stop_7 (n : Int) (h0 : -9223372036854775808 ≤ n) (h1 : n < 9223372036854775808) : stop n 7 := by
  unfold stop bn
  simp only [qn]
  omega
theorem first (n : Int) : ∀ m, stop n m → ∃ J, J ≤ m ∧ stop n J ∧ ∀ i, i < J → ¬ stop n i := by
  intro m
  induction m using Nat.strongRecOn with
  | _ m ih =>
    intro h
    by_cases c : ∃ i, i < m ∧ stop n i
    · obtain ⟨i, hi, hs⟩ := c
      obtain ⟨J, hJ, h1, h2⟩ := ih i hi hs
      exact ⟨J, by omega, h1, h2⟩
    · exact ⟨m, Nat.le_refl _, h, fun i hi hs => c ⟨i, hi, hs⟩⟩

theorem spec_step (n : Int) (j : Nat) (hj : j ≤ 7) (k : Nat) : spec_l04Integer.l0 (k + 1) (qn n j) (tl n j) =
    if (decide (qn n (j + 1) = 0) && decide (bn n j < 128)) || (decide (qn n (j + 1) = -1) && decide (128 ≤ bn n j)) then some (2, strOfNums (tl n (j + 1)), []) else spec_l04Integer.l0 k (qn n (j + 1)) (tl n (j + 1)) := by
  have hl := tl_length n j
  have e1 : [Go.bits .and .i64 (qn n j) 255 % 256] ++ tl n j = tl n (j + 1) := by
    rw [and255, show tl n (j + 1) = bn n j :: tl n j from rfl, bn]
    simp
  simp only [spec_l04Integer.l0, Option.bind_some]
  rw [if_pos (by simp only [List.length_singleton]; omega), e1, and255, show qn n j / 256 = qn n (j + 1) from rfl, show qn n j % 256 = bn n j from rfl]
  by_cases c1 : qn n (j + 1) = 0 <;> by_cases c2 : bn n j < 128 <;> by_cases c3 : qn n (j + 1) = -1 <;> by_cases c4 : 128 ≤ bn n j <;> simp [c1, c2, c3, c4] <;> omega

theorem spec_loop (n : Int) (J : Nat) (hJ : J ≤ 7) (h : stop n J) (hm : ∀ i, i < J → ¬ stop n i) (d : Nat) : ∀ j, j + d = J → Ev (fun k => spec_l04Integer.l0 k (qn n j) (tl n j)) (2, strOfNums (tl n (J + 1)), []) := by
  induction d with
  | zero =>
    intro j hj
    have e : j = J := by omega
    subst e
    refine Ev.step (f := fun _ => some (2, strOfNums (tl n (j + 1)), [])) (fun k => ?_) (Ev.now _)
    rw [spec_step n j hJ k, if_pos]
    unfold stop at h
    rcases h with ⟨a, b⟩ | ⟨a, b⟩ <;> simp [a, b]
  | succ d ih =>
    intro j hj
    refine Ev.step (fun k => ?_) (ih (j + 1) (by omega))
    rw [spec_step n j (by omega) k, if_neg]
    have := hm j (by omega)
    unfold stop at this
    simp only [Bool.or_eq_true, Bool.and_eq_true, decide_eq_true_eq]
    exact this

theorem isInt (n : Int) (j : Nat) (h : stop n (j + 1)) : impl_isInteger.f (strOfNums (tl n (j + 2))) = some (!((decide (qn n (j + 1) = 0) && decide (bn n j < 128)) || (decide (qn n (j + 1) = -1) && decide (128 ≤ bn n j)))) := by
  have hl := tl_length n (j + 2)
  have hs : (strOfNums (tl n (j + 2))).size = j + 2 := by rw [strOfNums_size, hl]
  have b0 : bt (strOfNums (tl n (j + 2))) 0 = bn n (j + 1) := bt_str _ (tl_range n _) 0
  have b1 : bt (strOfNums (tl n (j + 2))) 1 = bn n j := bt_str _ (tl_range n _) 1
  have r0 := bn_range n (j + 1)
  have r1 := bn_range n j
  have hq : qn n (j + 1) = 256 * qn n (j + 2) + bn n (j + 1) := by
    rw [show qn n (j + 2) = qn n (j + 1) / 256 from rfl, bn]
    omega
  unfold stop at h
  unfold impl_isInteger.f
  rw [hs, b0, b1, if_neg (by omega), if_pos (by omega), if_pos (by omega)]
  simp only [if_pos (show (1 : Int) < ((j + 2 : Nat) : Int) by omega)]
  generalize bn n (j + 1) = x at *
  generalize bn n j = y at *
  generalize qn n (j + 2) = p at *
  generalize qn n (j + 1) = q at *
  by_cases c0 : x = 0
  · rw [if_pos c0]
    by_cases c1 : y < 128
    · rw [if_pos c1]
      have : q = 0 := by omega
      simp [this, c1]
    · rw [if_neg c1, if_neg (by omega)]
      have h1 : q ≠ -1 := by omega
      simp [c1, h1]
  · rw [if_neg c0]
    have h1 : q ≠ 0 := by omega
    by_cases c2 : x = 255
    · rw [if_pos c2]
      have : q = -1 := by omega
      by_cases c1 : 128 ≤ y
      · simp [this, c1]
      · simp [this, c1]
    · rw [if_neg c2]
      have h2 : q ≠ -1 := by omega
      simp [h1, h2]

theorem impl_loop (n : Int) (J : Nat) (h : stop n J) (hm : ∀ i, i < J → ¬ stop n i) (d : Nat) : ∀ j, j = J + d → Ev (fun k => impl_IntegerOf.l0 k (strOfNums (tl n (j + 1)))) (2, strOfNums (tl n (J + 1)), []) := by
  induction d with
  | zero =>
    intro j hj
    have e : j = J := by omega
    subst e
    refine Ev.step (f := fun _ => some (2, strOfNums (tl n (j + 1)), [])) (fun k => ?_) (Ev.now _)
    simp only [impl_IntegerOf.l0]
    cases j with
    | zero =>
      have : impl_isInteger.f (strOfNums (tl n (0 + 1))) = some true := by
        unfold impl_isInteger.f
        rw [strOfNums_size, tl_length, if_pos (by omega)]
      rw [this]; rfl
    | succ j =>
      rw [isInt n j h]
      have := hm j (by omega)
      unfold stop at this
      rw [show ((decide (qn n (j + 1) = 0) && decide (bn n j < 128)) || (decide (qn n (j + 1) = -1) && decide (128 ≤ bn n j))) = false from by
        rw [Bool.eq_false_iff]
        simp only [ne_eq, Bool.or_eq_true, Bool.and_eq_true, decide_eq_true_eq]
        exact this]
      rfl
  | succ d ih =>
    intro j hj
    obtain ⟨j, rfl⟩ : ∃ m, j = m + 1 := ⟨j - 1, by omega⟩
    have hst : stop n j := by
      have := stop_le n J d h
      rwa [show J + d = j from by omega] at this
    refine Ev.step (fun k => ?_) (ih j (by omega))
    simp only [impl_IntegerOf.l0]
    rw [isInt n j (stop_up n j hst)]
    unfold stop at hst
    rw [show ((decide (qn n (j + 1) = 0) && decide (bn n j < 128)) || (decide (qn n (j + 1) = -1) && decide (128 ≤ bn n j))) = true from by
      simp only [Bool.or_eq_true, Bool.and_eq_true, decide_eq_true_eq]
      exact hst]
    simp only [Bool.not_true, Option.bind_some, Bool.false_eq_true, if_false]
    rw [if_pos (by rw [strOfNums_size, tl_length]; omega), str_drop]
    rfl

theorem FnExactIntegerOf : laws_FnExactIntegerOf.Pure := by
  intro n hn
  refine Ev.rounds (g := fun k => laws_FnExactIntegerOf.f k n) ?_
  have hb : -9223372036854775808 ≤ n ∧ n < 9223372036854775808 := by
    simp [Lit.wf, IntKind.min, IntKind.max, IntKind.signed, IntKind.bits] at hn
    omega
  obtain ⟨J, hJ, hs, hm⟩ := first n 7 (stop_7 n hb.1 hb.2)
  have h1 : Ev (fun k => spec_IntegerOf.f k n) (2, strOfNums (tl n (J + 1)), []) := by
    unfold spec_IntegerOf.f
    refine Ev.bind (a := (2, strOfNums (tl n (J + 1)), [])) ?_ (Ev.now _)
    unfold spec_l04Integer.f
    exact spec_loop n J hJ hs hm J 0 (by omega)
  have h2 : Ev (fun k => impl_IntegerOf.f k n) (2, strOfNums (tl n (J + 1)), []) := by
    unfold impl_IntegerOf.f
    refine Ev.bind (big n 8 (by omega)) ?_
    rw [← tl_big]
    exact impl_loop n J hs hm (7 - J) 7 (by omega)
  have h3 : laws_heldDer.f 2 (strOfNums (tl n (J + 1))) [] 1 = some 1 := rfl
  have e1 : laws_eqDer.f 2 (strOfNums (tl n (J + 1))) [] 2 (strOfNums (tl n (J + 1))) [] = some true := by
    unfold laws_eqDer.f laws_eqDerS.f
    simp
  have e2 : laws_markDer.f 2 (strOfNums (tl n (J + 1))) [] 1 = some 1 := rfl
  unfold laws_FnExactIntegerOf.f
  refine Ev.bind h1 (Ev.bind h2 ?_)
  simp only [e1, e2, h3, Option.bind_some, if_true, if_neg (show ¬ (1 : Int) < 0 by omega)]
  refine Ev.bind h2 ?_
  simp only [e1, Option.bind_some, if_true]
  exact Ev.now _
end Go.Proofs.Ytjckchadcpaijaa.Pure
