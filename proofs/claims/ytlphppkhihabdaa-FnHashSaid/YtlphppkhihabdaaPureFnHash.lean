/- The digest of bytes is 64 bytes, the reference's bytes, and reduced it is a number below the order that is reduced to itself; no condition beyond the statement's own. -/
import Derived.Test.YtlphppkhihabdaaYFldA
import Derived.Test.YtlphppkhihabdaaYNBase
import Derived.Test.YtlphppkhihabdaaYShaEq
set_option linter.unusedVariables false
namespace Go.Proofs.Ytlphppkhihabdaa.ShaT
open Go.RowKit Go.Proofs.Ytlphppkhihabdaa.Limb Go.Proofs.Ytlphppkhihabdaa.FldA
def B16 : Nat := 65536
def pR (a b : List Int) (i : Nat) (W : List Int) : Nat → List Int × Int
  | 0 => (W, 0)
  | k + 1 => ((pR a b i W k).1.set (i + k) (((pR a b i W k).1.getD (i + k) 0 + a.getD i 0 * b.getD k 0 + (pR a b i W k).2) % 65536), ((pR a b i W k).1.getD (i + k) 0 + a.getD i 0 * b.getD k 0 + (pR a b i W k).2) / 65536)
def pW (a b : List Int) : Nat → List Int
  | 0 => List.replicate (a.length + b.length) 0
  | i + 1 => (pR a b i (pW a b i) b.length).1.set (i + b.length) (pR a b i (pW a b i) b.length).2
theorem pR_length (a b W : List Int) (i k : Nat) : (pR a b i W k).1.length = W.length := by
  induction k with
  | zero => rfl
  | succ k ih => simp [pR, ih]
theorem pW_length (a b : List Int) (i : Nat) : (pW a b i).length = a.length + b.length := by
  induction i with
  | zero => simp [pW]
  | succ i ih => simp [pW, pR_length, ih]
theorem prod16 (a b : Int) (ha : 0 ≤ a ∧ a < 65536) (hb : 0 ≤ b ∧ b < 65536) : 0 ≤ a * b ∧ a * b ≤ 4294836225 := by
  refine ⟨Int.mul_nonneg ha.1 hb.1, ?_⟩
  have h1 : a * b ≤ 65535 * b := Int.mul_le_mul_of_nonneg_right (by omega) hb.1
  omega
theorem pR_ok (a b : List Int) (ha : Ok B16 a) (hb : Ok B16 b) (i : Nat) (hi : i < a.length) (W : List Int) (hW : Ok B16 W) (hl : W.length = a.length + b.length) (k : Nat) (hk : k ≤ b.length) :
    Ok B16 (pR a b i W k).1 ∧ 0 ≤ (pR a b i W k).2 ∧ (pR a b i W k).2 < 65536 := by
  induction k with
  | zero => exact ⟨hW, by simp [pR], by simp [pR]⟩
  | succ k ih =>
    obtain ⟨h1, h2, h3⟩ := ih (by omega)
    have x := getD_range ha i hi
    have y := getD_range hb k (by omega)
    have z := getD_range h1 (i + k) (by rw [pR_length]; omega)
    have p := prod16 _ _ x y
    have z2 : (pR a b i W k).1.getD (i + k) 0 < 65536 := z.2
    have z1 := z.1
    simp only [pR]
    exact ⟨ok_set h1 _ _ (by omega) (by show _ < (65536 : Int); omega), by omega, by omega⟩
theorem pR_rng (a b : List Int) (ha : Ok B16 a) (hb : Ok B16 b) (i : Nat) (hi : i < a.length) (W : List Int) (hW : Ok B16 W) (hl : W.length = a.length + b.length) (k : Nat) (hk : k < b.length) :
    0 ≤ a.getD i 0 * b.getD k 0 ∧ a.getD i 0 * b.getD k 0 ≤ 4294836225 ∧ 0 ≤ (pR a b i W k).1.getD (i + k) 0 ∧ (pR a b i W k).1.getD (i + k) 0 < 65536 ∧ 0 ≤ (pR a b i W k).2 ∧ (pR a b i W k).2 < 65536 := by
  obtain ⟨h1, h2, h3⟩ := pR_ok a b ha hb i hi W hW hl k (by omega)
  have z := getD_range h1 (i + k) (by rw [pR_length]; omega)
  have p := prod16 _ _ (getD_range ha i hi) (getD_range hb k hk)
  exact ⟨p.1, p.2, z.1, z.2, h2, h3⟩
theorem pR_val (a b W : List Int) (i : Nat) (hi : i < a.length) (hW : W.length = a.length + b.length) (k : Nat) (hk : k ≤ b.length) :
    lval B16 (pR a b i W k).1 + ((B16 : Nat) : Int) ^ (i + k) * (pR a b i W k).2 = lval B16 W + ((B16 : Nat) : Int) ^ i * (a.getD i 0 * lval B16 (b.take k)) := by
  induction k with
  | zero => simp [pR, lval]
  | succ k ih =>
    have ih := ih (by omega)
    simp only [pR]
    rw [lval_set _ _ _ _ (by rw [pR_length]; omega), List.take_succ_eq_append_getElem (by omega), lval_append]
    have e : b[k]'(by omega) = b.getD k 0 := by rw [List.getD_eq_getElem?_getD, List.getElem?_eq_getElem (by omega)]; rfl
    rw [e, List.length_take, Nat.min_eq_left (by omega), Int.pow_add, Int.pow_add, Int.pow_succ]
    rw [Int.pow_add] at ih
    simp only [lval]
    have d := Int.emod_add_mul_ediv ((pR a b i W k).1.getD (i + k) 0 + a.getD i 0 * b.getD k 0 + (pR a b i W k).2) 65536
    rw [show ((B16 : Nat) : Int) = 65536 from rfl] at ih ⊢
    generalize ((pR a b i W k).1.getD (i + k) 0 + a.getD i 0 * b.getD k 0 + (pR a b i W k).2) % 65536 = r at *
    generalize ((pR a b i W k).1.getD (i + k) 0 + a.getD i 0 * b.getD k 0 + (pR a b i W k).2) / 65536 = q at *
    generalize (pR a b i W k).1.getD (i + k) 0 = u at *
    generalize (pR a b i W k).2 = c at *
    generalize b.getD k 0 = v at *
    generalize a.getD i 0 = z at *
    generalize (65536 : Int) ^ k = P at *
    generalize (65536 : Int) ^ i = Q at *
    generalize lval B16 (pR a b i W k).1 = L at *
    generalize lval B16 (b.take k) = T at *
    generalize lval B16 W = V at *
    grind
theorem pR_rest (a b W : List Int) (i k : Nat) (hl : i + k ≤ W.length) : ∀ j, i + k ≤ j → (pR a b i W k).1.getD j 0 = W.getD j 0 := by
  induction k with
  | zero => intro j _; rfl
  | succ k ih =>
    intro j hj
    simp only [pR]
    rw [getD_setI _ _ _ _ (by rw [pR_length]; omega), if_neg (by omega)]
    exact ih (by omega) j (by omega)
theorem pW_ok (a b : List Int) (ha : Ok B16 a) (hb : Ok B16 b) (i : Nat) (hi : i ≤ a.length) : Ok B16 (pW a b i) := by
  induction i with
  | zero => intro x hx; simp [pW] at hx; obtain ⟨_, rfl⟩ := hx; exact ⟨Int.le_refl _, by decide⟩
  | succ i ih =>
    obtain ⟨h1, h2, h3⟩ := pR_ok a b ha hb i (by omega) (pW a b i) (ih (by omega)) (pW_length a b i) b.length (Nat.le_refl _)
    simp only [pW]
    exact ok_set h1 _ _ h2 h3
theorem pW_rest (a b : List Int) (i : Nat) (hi : i ≤ a.length) : ∀ j, i + b.length ≤ j → (pW a b i).getD j 0 = 0 := by
  induction i with
  | zero =>
    intro j hj
    simp only [pW]
    rw [List.getD_eq_getElem?_getD, List.getElem?_replicate]
    split <;> rfl
  | succ i ih =>
    intro j hj
    simp only [pW]
    rw [getD_setI _ _ _ _ (by rw [pR_length, pW_length]; omega), if_neg (by omega), pR_rest a b _ i b.length (by rw [pW_length]; omega) j (by omega)]
    exact ih (by omega) j (by omega)
theorem pW_val (a b : List Int) (i : Nat) (hi : i ≤ a.length) : lval B16 (pW a b i) = lval B16 (a.take i) * lval B16 b := by
  induction i with
  | zero =>
    have h : ∀ n, lval B16 (List.replicate n 0) = 0 := fun n => by
      induction n with
      | zero => rfl
      | succ n ih => rw [List.replicate_succ, lval, ih]; simp
    simp only [pW, List.take_zero, lval, h]; simp
  | succ i ih =>
    have ih := ih (by omega)
    simp only [pW]
    rw [lval_set _ _ _ _ (by rw [pR_length, pW_length]; omega)]
    have hr : (pR a b i (pW a b i) b.length).1.getD (i + b.length) 0 = 0 := by
      rw [pR_rest a b _ i b.length (by rw [pW_length]; omega) _ (Nat.le_refl _)]
      exact pW_rest a b i (by omega) _ (Nat.le_refl _)
    have hv := pR_val a b (pW a b i) i (by omega) (pW_length a b i) b.length (Nat.le_refl _)
    rw [List.take_length] at hv
    rw [hr, List.take_succ_eq_append_getElem (by omega), lval_append]
    have e : a[i]'(by omega) = a.getD i 0 := by rw [List.getD_eq_getElem?_getD, List.getElem?_eq_getElem (by omega)]; rfl
    rw [e, List.length_take, Nat.min_eq_left (by omega)]
    simp only [lval]
    rw [ih] at hv
    generalize lval B16 (pR a b i (pW a b i) b.length).1 = L at *
    generalize (pR a b i (pW a b i) b.length).2 = c at *
    generalize lval B16 b = V at *
    generalize a.getD i 0 = z at *
    generalize lval B16 (a.take i) = T at *
    generalize ((B16 : Nat) : Int) ^ (i + b.length) = P at *
    generalize ((B16 : Nat) : Int) ^ i = Q at *
    grind
theorem pW_all (a b : List Int) : lval B16 (pW a b a.length) = lval B16 a * lval B16 b := by
  rw [pW_val a b a.length (Nat.le_refl _), List.take_length]
end Go.Proofs.Ytlphppkhihabdaa.ShaT

namespace Go.Proofs.Ytlphppkhihabdaa.YN
open Go.RowKit Go.Proofs.Ytlphppkhihabdaa.Num Go.Proofs.Ytlphppkhihabdaa.XN Go.Proofs.Ytlphppkhihabdaa.Limb Go.Proofs.Ytlphppkhihabdaa.ShaT Go.Proofs.YtlphppkhihabdaaW.PrintWords Go.Proofs.YtlphppkhihabdaaW.PrintLast

theorem step_val (u p c : Int) (hu : 0 ≤ u ∧ u < 65536) (hp : 0 ≤ p ∧ p ≤ 4294836225) (hc : 0 ≤ c ∧ c < 65536) :
    Int.tmod (wrap64 (wrap64 (u + wrap64 p) + c)) 65536 = (u + p + c) % 65536 ∧ wrap64 (Int.tdiv (wrap64 (wrap64 (u + wrap64 p) + c)) 65536) = (u + p + c) / 65536 := by
  rw [w64 (n := p) (by omega) (by omega), w64 (n := u + p) (by omega) (by omega), w64 (n := u + p + c) (by omega) (by omega), Int.tmod_eq_emod_of_nonneg (by omega), Int.tdiv_eq_ediv_of_nonneg (by omega)]
  exact ⟨rfl, w64 (by omega) (by omega)⟩
theorem times_l1 (a b : List Int) (ha : Ok B16 a) (hb : Ok B16 b) (hla : a.length < 1000000) (hlb : b.length < 1000000) (i : Nat) (hi : i < a.length) (W : List Int) (hW : Ok B16 W) (hl : W.length = a.length + b.length) (R : List Int)
    (hR : Ev (fun f => spec_l06Times.l0 f a b ((pR a b i W b.length).1.set (i + b.length) (pR a b i W b.length).2) ((i + 1 : Nat) : Int)) R) (d : Nat) :
    ∀ k, k + d = b.length → Ev (fun f => spec_l06Times.l1 f a b (pR a b i W k).1 (i : Int) (pR a b i W k).2 (k : Int)) R := by
  induction d with
  | zero =>
    intro k hk
    obtain rfl : k = b.length := by omega
    have hlen := pR_length a b W i b.length
    refine Ev.step (fun f => ?_) hR
    simp only [spec_l06Times.l1]
    rw [if_neg (by omega), w64 (n := (i : Int) + (b.length : Int)) (by omega) (by omega), if_pos (by omega), if_pos (by omega), w64 (n := (i : Int) + 1) (by omega) (by omega)]
    rw [show ((i : Int) + (b.length : Int)).toNat = i + b.length by omega]
    rfl
  | succ d ih =>
    intro k hk
    have hlen := pR_length a b W i k
    obtain ⟨p0, p1, u0, u1, c0, c1⟩ := pR_rng a b ha hb i hi W hW hl k (by omega)
    have hs := step_val _ _ _ ⟨u0, u1⟩ ⟨p0, p1⟩ ⟨c0, c1⟩
    have hn := ih (k + 1) (by omega)
    refine Ev.step (fun f => ?_) hn
    simp only [spec_l06Times.l1]
    rw [if_pos (by omega), w64 (n := (i : Int) + (k : Int)) (by omega) (by omega), if_pos (by omega), if_pos (by omega), if_pos (by omega), if_pos (by omega), if_pos (by omega), w64 (n := (k : Int) + 1) (by omega) (by omega)]
    rw [show ((i : Int) + (k : Int)) = ((i + k : Nat) : Int) by omega, rd_nat, rd_nat, rd_nat, hs.1, hs.2, Int.toNat_natCast]
    rfl
theorem times_l0 (a b : List Int) (ha : Ok B16 a) (hb : Ok B16 b) (hla : a.length < 1000000) (hlb : b.length < 1000000) (d : Nat) :
    ∀ i, i + d = a.length → Ev (fun f => spec_l06Times.l0 f a b (pW a b i) (i : Int)) (pW a b a.length) := by
  induction d with
  | zero =>
    intro i hi
    obtain rfl : i = a.length := by omega
    refine Ev.step (f := fun _ => some (pW a b a.length)) (fun f => ?_) (Ev.now _)
    simp only [spec_l06Times.l0]
    rw [if_neg (by omega)]
  | succ d ih =>
    intro i hi
    have hn := ih (i + 1) (by omega)
    refine Ev.step (fun f => ?_) (times_l1 a b ha hb hla hlb i (by omega) (pW a b i) (pW_ok a b ha hb i (by omega)) (pW_length a b i) _ hn b.length 0 (by omega))
    simp only [spec_l06Times.l0]
    rw [if_pos (by omega)]
    rfl
theorem times_is (a b : List Int) (ha : Ok B16 a) (hb : Ok B16 b) (hla : a.length < 1000000) (hlb : b.length < 1000000) : Ev (fun f => spec_l06Times.f f a b) (pW a b a.length) := by
  refine Ev.congr (fun f => ?_) (times_l0 a b ha hb hla hlb a.length 0 (by omega))
  simp only [spec_l06Times.f]
  rw [w64 (n := (a.length : Int) + (b.length : Int)) (by omega) (by omega), if_pos (by omega), if_pos (by omega)]
  rw [show ((a.length : Int) + (b.length : Int)).toNat = a.length + b.length by omega]
  rfl
end Go.Proofs.Ytlphppkhihabdaa.YN

namespace Go.Proofs.Ytlphppkhihabdaa.YN
open Go.RowKit Go.Proofs.Ytlphppkhihabdaa.Num Go.Proofs.Ytlphppkhihabdaa.XN Go.Proofs.Ytlphppkhihabdaa.Limb Go.Proofs.Ytlphppkhihabdaa.ShaT Go.Proofs.YtlphppkhihabdaaW.PrintWords Go.Proofs.YtlphppkhihabdaaW.PrintLast

def pwL (n : List Int) : Nat → List Int
  | 0 => [1]
  | k + 1 => pW (pwL n k) n (pwL n k).length
theorem pwL_length (n : List Int) (k : Nat) : (pwL n k).length = 1 + k * n.length := by
  induction k with
  | zero => simp [pwL]
  | succ k ih => rw [pwL, pW_length, ih, Nat.succ_mul]; omega
theorem pwL_ok (n : List Int) (hn : Ok B16 n) (k : Nat) : Ok B16 (pwL n k) := by
  induction k with
  | zero => intro x hx; simp [pwL] at hx; subst hx; exact ⟨by decide, by decide⟩
  | succ k ih => exact pW_ok _ _ ih hn _ (Nat.le_refl _)
theorem pwL_val (n : List Int) (k : Nat) : lval B16 (pwL n k) = lval B16 n ^ k := by
  induction k with
  | zero => simp [pwL, lval]
  | succ k ih => rw [pwL, pW_all, ih, Int.pow_succ]
theorem lval_zeros (m : Nat) : lval B16 (List.replicate m 0) = 0 := by
  induction m with
  | zero => rfl
  | succ m ih => rw [List.replicate_succ, lval, ih]; simp
theorem lval_zero (xs : List Int) : lval B16 (xs ++ [0]) = lval B16 xs := by
  rw [lval_append]; simp [lval]
theorem ok_zero {xs : List Int} (h : Ok B16 xs) : Ok B16 (xs ++ [0]) := by
  intro x hx
  rcases List.mem_append.mp hx with hx | hx
  · exact h x hx
  · rw [List.mem_singleton] at hx; subst hx; exact ⟨Int.le_refl _, by decide⟩
theorem lval_lt (xs : List Int) (h : Ok B16 xs) : lval B16 xs < (B16 : Int) ^ xs.length := by
  induction xs with
  | nil => simp [lval]
  | cons x xs ih =>
    have h1 := h x (by simp)
    have h2 := ih (fun y hy => h y (by simp [hy]))
    rw [lval, List.length_cons, Int.pow_succ]
    have h3 : x < (B16 : Int) := h1.2
    have h4 : (B16 : Int) * lval B16 xs ≤ (B16 : Int) * ((B16 : Int) ^ xs.length - 1) := Int.mul_le_mul_of_nonneg_left (by omega) (by decide)
    rw [Int.mul_sub, Int.mul_one, Int.mul_comm] at h4
    have h5 := Int.mul_comm (B16 : Int) ((B16 : Int) ^ xs.length)
    rw [Int.mul_comm (B16 : Int) (lval B16 xs)]
    omega
theorem take_split (xs : List Int) (i : Nat) (hi : i < xs.length) : lval B16 (xs.take (i + 1)) = lval B16 (xs.take i) + (B16 : Int) ^ i * xs.getD i 0 := by
  rw [List.take_succ_eq_append_getElem hi, lval_append, List.length_take, Nat.min_eq_left (by omega), List.getD_eq_getElem?_getD, List.getElem?_eq_getElem hi]
  simp [lval]
theorem ok_take {xs : List Int} (h : Ok B16 xs) (i : Nat) : Ok B16 (xs.take i) := fun x hx => h x (List.mem_of_mem_take hx)
theorem top_lt (a b P x y : Int) (ha : 0 ≤ a) (ha2 : a < P) (hb : 0 ≤ b) (hb2 : b < P) (hne : x ≠ y) : (a + P * x ≤ b + P * y) ↔ x < y := by
  constructor
  · intro h
    rcases Int.lt_or_le x y with h1 | h1
    · exact h1
    · have h2 : P * (y + 1) ≤ P * x := Int.mul_le_mul_of_nonneg_left (by omega) (by omega)
      rw [Int.mul_add, Int.mul_one] at h2; omega
  · intro h
    have h2 : P * (x + 1) ≤ P * y := Int.mul_le_mul_of_nonneg_left (by omega) (by omega)
    rw [Int.mul_add, Int.mul_one] at h2; omega
theorem least_l3 (xs ys : List Int) (hx : Ok B16 xs) (hy : Ok B16 ys) (hl : xs.length = ys.length) (hs : xs.length < 1000000) (i : Nat) : i ≤ xs.length →
    Ev (fun f => spec_l06Least.l3 f xs ys ((i : Int) - 1)) (decide (lval B16 (xs.take i) ≤ lval B16 (ys.take i))) := by
  induction i with
  | zero =>
    intro _
    refine Ev.step (f := fun _ => some true) (fun f => ?_) (Ev.eq (Ev.now _) (by simp [lval]))
    simp only [spec_l06Least.l3]
    rw [if_neg (by omega)]
  | succ i ih =>
    intro hi
    have e0 : (((i + 1 : Nat)) : Int) - 1 = (i : Int) := by omega
    rw [e0]
    by_cases hne : xs.getD i 0 = ys.getD i 0
    · refine Ev.step (fun f => ?_) (Ev.eq (ih (by omega)) ?_)
      · simp only [spec_l06Least.l3]
        rw [if_pos (by omega), if_pos (by omega), if_pos (by omega), if_pos (by omega), rd_nat, rd_nat, if_pos hne, w64 (by omega) (by omega)]
      · rw [take_split xs i (by omega), take_split ys i (by omega), hne]
        congr 1
        exact propext (by omega)
    · refine Ev.step (f := fun _ => some (decide (xs.getD i 0 < ys.getD i 0))) (fun f => ?_) (Ev.eq (Ev.now _) ?_)
      · simp only [spec_l06Least.l3]
        rw [if_pos (by omega), if_pos (by omega), if_pos (by omega), if_pos (by omega), rd_nat, rd_nat, if_neg hne]
      · rw [take_split xs i (by omega), take_split ys i (by omega)]
        have a1 := lval_nonneg B16 _ (ok_take hx i)
        have a2 := lval_lt _ (ok_take hx i)
        have b1 := lval_nonneg B16 _ (ok_take hy i)
        have b2 := lval_lt _ (ok_take hy i)
        rw [List.length_take, Nat.min_eq_left (by omega)] at a2 b2
        have h := top_lt _ _ _ (xs.getD i 0) (ys.getD i 0) a1 a2 b1 b2 hne
        exact decide_eq_decide.mpr h.symm
theorem least_l2 (ys : List Int) (hy : Ok B16 ys) (hs : ys.length < 1000000) (d : Nat) : ∀ xs : List Int, Ok B16 xs → xs.length + d = ys.length → Ev (fun f => spec_l06Least.l2 f xs ys) (decide (lval B16 xs ≤ lval B16 ys)) := by
  induction d with
  | zero =>
    intro xs hx hl
    have h := least_l3 xs ys hx hy (by omega) (by omega) xs.length (Nat.le_refl _)
    rw [List.take_length, show xs.length = ys.length by omega, List.take_length] at h
    refine Ev.step (fun f => ?_) h
    simp only [spec_l06Least.l2]
    rw [if_neg (by omega), w64 (by omega) (by omega)]
  | succ d ih =>
    intro xs hx hl
    have h := ih (xs ++ [0]) (ok_zero hx) (by rw [List.length_append, List.length_singleton]; omega)
    rw [lval_zero] at h
    refine Ev.step (fun f => ?_) h
    simp only [spec_l06Least.l2]
    rw [if_pos (by omega), if_pos (by omega)]
theorem least_l1 (xs : List Int) (hx : Ok B16 xs) (hs : xs.length < 1000000) (d : Nat) : ∀ ys : List Int, Ok B16 ys → ys.length < 1000000 → xs.length ≤ ys.length + d → Ev (fun f => spec_l06Least.l1 f xs ys) (decide (lval B16 xs ≤ lval B16 ys)) := by
  induction d with
  | zero =>
    intro ys hy h1 hl
    refine Ev.step (fun f => ?_) (least_l2 ys hy h1 (ys.length - xs.length) xs hx (by omega))
    simp only [spec_l06Least.l1]
    rw [if_neg (by omega)]
  | succ d ih =>
    intro ys hy h1 hl
    by_cases hlt : ys.length < xs.length
    · have h := ih (ys ++ [0]) (ok_zero hy) (by rw [List.length_append, List.length_singleton]; omega) (by rw [List.length_append, List.length_singleton]; omega)
      rw [lval_zero] at h
      refine Ev.step (fun f => ?_) h
      simp only [spec_l06Least.l1]
      rw [if_pos (by omega), if_pos (by omega)]
    · exact ih ys hy h1 (by omega)
theorem least_l0 (n : List Int) (p : Int) (r : Nat) (hn : Ok B16 n) (hl : n.length < 100) (hr : r < 100) (hp : 0 ≤ p ∧ p < 65536) (d : Nat) : ∀ i, i + d = r →
    Ev (fun f => spec_l06Least.l0 f n p (r : Int) (pwL n i) (i : Int)) (decide (lval B16 n ^ r ≤ (B16 : Int) ^ (4 * r) * p)) := by
  have hlen : ∀ k, k ≤ r → (pwL n k).length < 10000 := fun k hk => by
    rw [pwL_length]
    have : k * n.length ≤ 99 * 99 := Nat.mul_le_mul (by omega) (by omega)
    omega
  induction d with
  | zero =>
    intro i hi
    obtain rfl : i = r := by omega
    have hw : Ok B16 (List.replicate (4 * i) 0 ++ [p]) := fun x hx => by
      rcases List.mem_append.mp hx with hx | hx
      · rw [List.mem_replicate] at hx; rw [hx.2]; exact ⟨Int.le_refl _, by decide⟩
      · rw [List.mem_singleton] at hx; subst hx; exact hp
    have h := least_l1 (pwL n i) (pwL_ok n hn i) (by have := hlen i (Nat.le_refl _); omega) (pwL n i).length (List.replicate (4 * i) 0 ++ [p]) hw (by simp; omega) (by omega)
    rw [pwL_val, lval_append, lval_zeros, List.length_replicate, show lval B16 [p] = p by simp [lval], Int.zero_add] at h
    refine Ev.step (fun f => ?_) h
    simp only [spec_l06Least.l0]
    rw [if_neg (by omega), w64 (n := 4 * (i : Int)) (by omega) (by omega), if_pos (by omega), if_pos (by omega), Option.bind_some, show (4 * (i : Int)).toNat = 4 * i by omega, if_pos (by rw [List.length_replicate]; omega)]
  | succ d ih =>
    intro i hi
    have h := ih (i + 1) (by omega)
    have ht := times_is (pwL n i) n (pwL_ok n hn i) hn (by have := hlen i (by omega); omega) (by omega)
    refine Ev.step (fun f => ?_) (Ev.bind (f := fun m t => spec_l06Least.l0 m n p (r : Int) t ((i + 1 : Nat) : Int)) ht h)
    simp only [spec_l06Least.l0]
    rw [if_pos (by omega), w64 (by omega) (by omega)]
    rfl
theorem least_is (n : List Int) (p : Int) (r : Nat) (hn : Ok B16 n) (hl : n.length < 100) (hr : r < 100) (hp : 0 ≤ p ∧ p < 65536) :
    Ev (fun f => spec_l06Least.f f n p (r : Int)) (decide (lval B16 n ^ r ≤ (B16 : Int) ^ (4 * r) * p)) :=
  least_l0 n p r hn hl hr hp r 0 (by omega)
end Go.Proofs.Ytlphppkhihabdaa.YN

namespace Go.Proofs.Ytlphppkhihabdaa.YN
open Go.RowKit Go.Proofs.Ytlphppkhihabdaa.Num Go.Proofs.Ytlphppkhihabdaa.XN Go.Proofs.Ytlphppkhihabdaa.Limb Go.Proofs.Ytlphppkhihabdaa.ShaT Go.Proofs.YtlphppkhihabdaaW.PrintWords Go.Proofs.YtlphppkhihabdaaW.PrintMore Go.Proofs.YtlphppkhihabdaaW.PrintLast

def outF (n : List Int) : Int := Go.bits .or .u64 (Go.bits .or .u64 (Go.bits .or .u64 (IntKind.u64.wrap (rd n 0)) (IntKind.u64.wrap ((IntKind.u64.wrap (rd n 1)) * 65536))) (IntKind.u64.wrap ((IntKind.u64.wrap (rd n 2)) * 4294967296))) (IntKind.u64.wrap ((IntKind.u64.wrap (rd n 3)) * 281474976710656))
/-- digit q of a multiple of 2^(16 q + s + 1) is a multiple of 2^(s + 1) -/
theorem digit_room (V q s : Nat) (hs : s < 16) (hV : V % 2 ^ (16 * q + s + 1) = 0) : V / 65536 ^ q % 65536 + 2 ^ s < 65536 := by
  obtain ⟨c, hc⟩ := Nat.dvd_of_mod_eq_zero hV
  have e : V / 65536 ^ q = 2 ^ (s + 1) * c := by
    rw [hc, show (65536 : Nat) = 2 ^ 16 from rfl, ← Nat.pow_mul, Nat.add_assoc, Nat.pow_add, Nat.mul_assoc, Nat.mul_div_cancel_left _ (Nat.two_pow_pos _)]
  rw [e]
  have h16 : (65536 : Nat) = 2 ^ (s + 1) * 2 ^ (15 - s) := by rw [← Nat.pow_add, show s + 1 + (15 - s) = 16 by omega]
  have hm : 2 ^ (s + 1) * c % 65536 = 2 ^ (s + 1) * (c % 2 ^ (15 - s)) := by rw [← Nat.mul_mod_mul_left, ← h16]
  have h1 := Nat.mod_lt c (Nat.two_pow_pos (15 - s))
  have h2 : 2 ^ (s + 1) * (c % 2 ^ (15 - s)) ≤ 2 ^ (s + 1) * (2 ^ (15 - s) - 1) := Nat.mul_le_mul_left _ (by omega)
  rw [Nat.mul_sub, Nat.mul_one, ← h16, ← hm] at h2
  have h3 : 2 ^ (s + 1) = 2 * 2 ^ s := by rw [Nat.pow_succ]; omega
  have h4 := Nat.two_pow_pos s
  have h5 : 2 ^ (s + 1) ≤ 2 ^ 16 := Nat.pow_le_pow_right (by decide) (by omega)
  rw [h3] at h2 h5
  rw [h3]
  rw [h3] at hm
  clear hm h16 e hV hc h1
  generalize 2 * 2 ^ s * c % 65536 = M at *
  generalize 2 ^ s = P at *
  omega
theorem set_digit (V q s : Nat) (hq : q < 5) (hs : s < 16) (hV : V % 2 ^ (16 * q + s + 1) = 0) (hlt : V + 2 ^ (16 * q + s) < B16 ^ 5) :
    (limbs B16 5 V).set q ((limbs B16 5 V).getD q 0 + (2 : Int) ^ s) = limbs B16 5 (V + 2 ^ (16 * q + s)) := by
  have hr := digit_room V q s hs hV
  have hd : (limbs B16 5 V).getD q 0 = ((V / B16 ^ q % B16 : Nat) : Int) := FldA.limbs_getD B16 5 V q hq
  have hok : Ok B16 ((limbs B16 5 V).set q ((limbs B16 5 V).getD q 0 + (2 : Int) ^ s)) := by
    refine ok_set (limbs_ok B16 (by decide) 5 V) _ _ ?_ ?_
    · rw [hd]
      have : (0 : Int) ≤ 2 ^ s := by have := Nat.two_pow_pos s; rw [show (2 : Int) ^ s = ((2 ^ s : Nat) : Int) by simp]; omega
      omega
    · rw [hd, show (2 : Int) ^ s = ((2 ^ s : Nat) : Int) by simp]
      show _ < ((65536 : Nat) : Int)
      have : V / B16 ^ q % B16 + 2 ^ s < 65536 := hr
      omega
  refine eq_limbs B16 (by decide) _ hok 5 _ (by rw [List.length_set, limbs_length]) ?_
  rw [lval_set _ _ _ _ (by rw [limbs_length]; exact hq), lval_limbs B16 (by decide)]
  have h0 : V < B16 ^ 5 := by omega
  rw [Nat.mod_eq_of_lt h0, Nat.mod_eq_of_lt hlt]
  have e : (B16 : Int) ^ q * ((limbs B16 5 V).getD q 0 + (2 : Int) ^ s - (limbs B16 5 V).getD q 0) = ((2 ^ (16 * q + s) : Nat) : Int) := by
    rw [show (limbs B16 5 V).getD q 0 + (2 : Int) ^ s - (limbs B16 5 V).getD q 0 = (2 : Int) ^ s by omega]
    rw [Nat.pow_add, Nat.pow_mul]
    simp [B16]
  rw [e]
  omega
theorem FldB_set_self (l : List Int) (i : Nat) (hi : i < l.length) : l.set i (l.getD i 0) = l := by
  rw [List.getD_eq_getElem?_getD, List.getElem?_eq_getElem hi]; simp
theorem wadd (a c : Int) (ha : 0 ≤ a ∧ a < (B16 : Int)) (hc : 0 ≤ c ∧ c ≤ 32768) : wrap64 (a + c) = a + c := by
  have h : a < 65536 := ha.2
  have h0 := ha.1
  exact w64 (by omega) (by omega)
theorem wone (a : Int) (ha : 0 ≤ a ∧ a < (B16 : Int)) : wrap64 a = a := by
  have h : a < 65536 := ha.2
  have h0 := ha.1
  exact w64 (by omega) (by omega)
theorem cancel_pow (a c : Int) : a + c - c = a := by omega
theorem least_nat (V : Nat) (hV : V < B16 ^ 5) (P r : Nat) (hr : r < 100) (hP : P < 65536) :
    Ev (fun f => spec_l06Least.f f (limbs B16 5 V) (P : Int) (r : Int)) (decide (V ^ r ≤ 65536 ^ (4 * r) * P)) := by
  refine Ev.eq (least_is (limbs B16 5 V) P r (limbs_ok B16 (by decide) 5 V) (by rw [limbs_length]; omega) hr ⟨by omega, by omega⟩) ?_
  rw [lval_limbs B16 (by decide), Nat.mod_eq_of_lt hV]
  have e1 : ((V : Nat) : Int) ^ r = ((V ^ r : Nat) : Int) := by simp
  have e2 : (B16 : Int) ^ (4 * r) * (P : Int) = ((65536 ^ (4 * r) * P : Nat) : Int) := by simp [B16]
  rw [e1, e2]
  congr 1
  exact propext ⟨fun h => by omega, fun h => by omega⟩
theorem pow_range (s : Nat) (h : s < 16) : (0 : Int) ≤ (2 : Int) ^ s ∧ (2 : Int) ^ s ≤ 32768 := by
  have : ∀ m : Nat, m < 16 → (0 : Int) ≤ (2 : Int) ^ m ∧ (2 : Int) ^ m ≤ 32768 := by decide +kernel
  exact this s h
theorem shl_pow (b s : Nat) (hs : b % 16 = s) : shl .i64 1 (IntKind.u64.wrap (Int.tmod (b : Int) 16)) = (2 : Int) ^ s := by
  have e1 : Int.tmod (b : Int) 16 = (s : Int) := by rw [Int.tmod_eq_emod_of_nonneg (by omega)]; omega
  have e2 : IntKind.u64.wrap (s : Int) = (s : Int) := by rw [IntKind.wrap_u64]; omega
  rw [e1, e2]
  have : ∀ m : Nat, m < 16 → shl .i64 1 (m : Int) = (2 : Int) ^ m := by decide +kernel
  exact this s (by omega)
theorem idx_div (b q : Nat) (hb : b < 70) (hq : b / 16 = q) : wrap64 (Int.tdiv (b : Int) 16) = (q : Int) := by
  rw [Int.tdiv_eq_ediv_of_nonneg (by omega)]
  rw [show (b : Int) / 16 = (q : Int) by omega]
  exact w64 (by omega) (by omega)
theorem nat_lt_int (q n : Nat) (h : q < n) : (q : Int) < (n : Int) := by omega
theorem w16_ge (b : Nat) : 0 ≤ IntKind.u64.wrap (Int.tmod (b : Int) 16) := by
  rw [Int.tmod_eq_emod_of_nonneg (by omega), IntKind.wrap_u64]; omega
theorem less1 (b : Nat) (hb : b < 70) : wrap64 ((b : Int) - 1) = (b : Int) - 1 := w64 (by omega) (by omega)
theorem set_back (L M : List Int) (q s : Nat) (hL : q < L.length) (hset : L.set q (L.getD q 0 + (2 : Int) ^ s) = M) (hgr : 0 ≤ L.getD q 0 ∧ L.getD q 0 < (B16 : Int)) : M.set q (wrap64 (rd M (q : Int) - (2 : Int) ^ s)) = L := by
  rw [← hset, rd_nat, FldA.getD_setI _ _ _ _ hL, if_pos rfl, List.set_set, cancel_pow, wone _ hgr]
  exact FldB_set_self _ q hL
theorem frac_step (f P r b q s : Nat) (L M : List Int) (hge : (b : Int) ≥ 0) (hshl : shl .i64 1 (IntKind.u64.wrap (Int.tmod (b : Int) 16)) = (2 : Int) ^ s) (hidx : wrap64 (Int.tdiv (b : Int) 16) = (q : Int)) (hw16 : 0 ≤ IntKind.u64.wrap (Int.tmod (b : Int) 16)) (hback : M.set q (wrap64 (rd M (q : Int) - (2 : Int) ^ s)) = L) (hq0 : (0 : Int) ≤ (q : Int)) (hqL : (q : Int) < (L.length : Int)) (hb1 : wrap64 ((b : Int) - 1) = (b : Int) - 1) (hsum : wrap64 (L.getD q 0 + (2 : Int) ^ s) = L.getD q 0 + (2 : Int) ^ s) (hset : L.set q (L.getD q 0 + (2 : Int) ^ s) = M) :
    spec_l06Frac.l0 (f + 1) (P : Int) (r : Int) L (b : Int) = (spec_l06Least.f f M (P : Int) (r : Int)).bind fun t => if t = true then spec_l06Frac.l0 f (P : Int) (r : Int) M ((b : Int) - 1) else spec_l06Frac.l0 f (P : Int) (r : Int) L ((b : Int) - 1) := by
  generalize (2 : Int) ^ s = p2 at *
  rw [spec_l06Frac.l0, if_pos hge, hidx, hshl, hb1, if_pos hq0, if_pos hqL, if_pos hw16, Option.bind_some, rd_nat, hsum, Int.toNat_natCast, hset, hback]
theorem frac_l0 (P r N : Nat) (hr : r < 100) (hP : P < 65536) (hN : N < 2 ^ 70) (h1 : N ^ r ≤ 65536 ^ (4 * r) * P) (h2 : 65536 ^ (4 * r) * P < (N + 1) ^ r) (b : Nat) : b ≤ 70 →
    Ev (fun f => spec_l06Frac.l0 f (P : Int) (r : Int) (limbs B16 5 (N / 2 ^ b * 2 ^ b)) ((b : Int) - 1)) (outF (limbs B16 5 N)) := by
  induction b with
  | zero =>
    intro _
    refine Ev.step (f := fun _ => some (outF (limbs B16 5 N))) (fun f => ?_) (Ev.now _)
    rw [Nat.pow_zero, Nat.div_one, Nat.mul_one]
    simp only [spec_l06Frac.l0]
    rw [if_neg (by omega), limbs_length, if_pos (by decide), if_pos (by decide), if_pos (by decide), if_pos (by decide)]
    rfl
  | succ b ih =>
    intro hb
    have ih := ih (by omega)
    obtain ⟨q, hq⟩ : ∃ q, q = b / 16 := ⟨_, rfl⟩
    obtain ⟨s, hs⟩ : ∃ s, s = b % 16 := ⟨_, rfl⟩
    have hbq : 16 * q + s = b := by omega
    have hs16 : s < 16 := by omega
    have hq5 : q < 5 := by omega
    obtain ⟨V, hV⟩ : ∃ V, V = N / 2 ^ (b + 1) * 2 ^ (b + 1) := ⟨_, rfl⟩
    have hVN : V ≤ N := by rw [hV]; exact Nat.div_mul_le_self _ _
    have hVm : V % 2 ^ (16 * q + s + 1) = 0 := by rw [hbq, hV]; exact Nat.mul_mod_left _ _
    have hp := Nat.pow_le_pow_right (n := 2) (by decide) (show b ≤ 69 by omega)
    have hB5 : B16 ^ 5 = 2 ^ 80 := by decide
    have hlt : V + 2 ^ (16 * q + s) < B16 ^ 5 := by
      rw [hbq, hB5]
      have : (2 : Nat) ^ 70 + 2 ^ 69 < 2 ^ 80 := by decide
      omega
    have hset := set_digit V q s hq5 hs16 hVm hlt
    have hroom := digit_room V q s hs16 hVm
    rw [hbq] at hset hlt
    have hd : (limbs B16 5 V).getD q 0 = ((V / 65536 ^ q % 65536 : Nat) : Int) := FldA.limbs_getD B16 5 V q hq5
    have hgr := getD_range (limbs_ok B16 (by decide) 5 V) q (by rw [limbs_length]; exact hq5)
    have hstep := least_nat (V + 2 ^ b) hlt P r hr hP
    have hb1 : (((b + 1 : Nat)) : Int) - 1 = (b : Int) := by omega
    have hsplit : N / 2 ^ b = 2 * (N / 2 ^ (b + 1)) + N / 2 ^ b % 2 := by
      have := Nat.div_add_mod (N / 2 ^ b) 2
      rw [Nat.div_div_eq_div_mul, ← Nat.pow_succ] at this
      exact this.symm
    have hp2 : 2 ^ (b + 1) = 2 * 2 ^ b := by rw [Nat.pow_succ]; omega
    have hVb : V = 2 * (N / 2 ^ (b + 1)) * 2 ^ b := by rw [hV, hp2]; rw [← Nat.mul_assoc, Nat.mul_comm (N / (2 * 2 ^ b)) 2]
    rw [hb1]
    rw [← hV]
    refine Ev.step (f := fun f => (spec_l06Least.f f (limbs B16 5 (V + 2 ^ b)) (P : Int) (r : Int)).bind fun t => if t = true then spec_l06Frac.l0 f (P : Int) (r : Int) (limbs B16 5 (V + 2 ^ b)) ((b : Int) - 1) else spec_l06Frac.l0 f (P : Int) (r : Int) (limbs B16 5 V) ((b : Int) - 1)) (fun f => ?_) ?_
    · exact frac_step f P r b q s _ _ (Int.natCast_nonneg b) (shl_pow b s hs.symm) (idx_div b q (Nat.lt_of_succ_le hb) hq.symm) (w16_ge b) (set_back _ _ q s (by rw [limbs_length]; exact hq5) hset hgr) (Int.natCast_nonneg q) (by rw [limbs_length]; exact nat_lt_int q 5 hq5) (less1 b (Nat.lt_of_succ_le hb)) (wadd _ _ hgr (pow_range s hs16)) hset
    · refine Ev.bind (f := fun f t => if t = true then spec_l06Frac.l0 f (P : Int) (r : Int) (limbs B16 5 (V + 2 ^ b)) ((b : Int) - 1) else spec_l06Frac.l0 f (P : Int) (r : Int) (limbs B16 5 V) ((b : Int) - 1)) hstep ?_
      rcases Nat.mod_two_eq_zero_or_one (N / 2 ^ b) with h0 | h0
      · have hv : V = N / 2 ^ b * 2 ^ b := by
          have hq0 : N / 2 ^ b = 2 * (N / 2 ^ (b + 1)) := hsplit.trans (by rw [h0, Nat.add_zero])
          rw [hVb, hq0]
        have hgt : ¬ (V + 2 ^ b) ^ r ≤ 65536 ^ (4 * r) * P := by
          have h3 : N + 1 ≤ V + 2 ^ b := by
            rw [hv]
            have := Nat.div_add_mod N (2 ^ b)
            have h5 := Nat.mod_lt N (Nat.two_pow_pos b)
            rw [Nat.mul_comm] at this; omega
          have h4 := Nat.pow_le_pow_left h3 r
          omega
        rw [decide_eq_false hgt]
        refine Ev.congr (f := fun f => spec_l06Frac.l0 f (P : Int) (r : Int) (limbs B16 5 V) ((b : Int) - 1)) (fun f => if_neg (by decide)) ?_
        rw [hv]; exact ih
      · have hv : V + 2 ^ b = N / 2 ^ b * 2 ^ b := by
          have hq0 : N / 2 ^ b = 2 * (N / 2 ^ (b + 1)) + 1 := hsplit.trans (by rw [h0])
          rw [hVb, hq0, Nat.add_mul, Nat.one_mul]
        have hle : (V + 2 ^ b) ^ r ≤ 65536 ^ (4 * r) * P := by
          have h3 : V + 2 ^ b ≤ N := by rw [hv]; exact Nat.div_mul_le_self _ _
          exact Nat.le_trans (Nat.pow_le_pow_left h3 r) h1
        rw [decide_eq_true hle]
        refine Ev.congr (f := fun f => spec_l06Frac.l0 f (P : Int) (r : Int) (limbs B16 5 (V + 2 ^ b)) ((b : Int) - 1)) (fun f => if_pos rfl) ?_
        rw [hv]; exact ih
end Go.Proofs.Ytlphppkhihabdaa.YN

namespace Go.Proofs.Ytlphppkhihabdaa.YN
open Go.RowKit Go.Proofs.Ytlphppkhihabdaa.Num Go.Proofs.Ytlphppkhihabdaa.XN Go.Proofs.Ytlphppkhihabdaa.Limb Go.Proofs.Ytlphppkhihabdaa.ShaT Go.Proofs.Ytlphppkhihabdaa.ShaA Go.Proofs.YtlphppkhihabdaaW.PrintWords Go.Proofs.YtlphppkhihabdaaW.PrintMore Go.Proofs.YtlphppkhihabdaaW.PrintLast

/-- the list with p behind it, if no number of the list divides p -/
def nxtP (L : List Int) (p : Int) : List Int := if L.all (fun q => Int.tmod p q != 0) then L ++ [p] else L
def runP : Nat → List Int → Int → Bool
  | 0, L, _ => L == primeL
  | d + 1, L, p => decide ((L.length : Int) < 80) && (L.all (fun q => q != 0) && (decide (0 ≤ p ∧ p < 100000) && runP d (nxtP L p) (p + 1)))
theorem w64s (n : Int) (h : 0 ≤ n ∧ n < 1000000) : wrap64 n = n := by obtain ⟨h0, h1⟩ := h; unfold wrap64; omega
theorem primes_l1 (n : Int) (L : List Int) (p : Int) (r : List Int) (hL : L.length < 80) (hz : ∀ i, i < L.length → L.getD i 0 ≠ 0) (hp : wrap64 (p + 1) = p + 1)
    (d : Nat) : ∀ (i : Nat) (b : Bool), i + d = L.length →
    Ev (fun f => spec_l06Primes.l0 f n (if (b && (L.drop i).all (fun q => Int.tmod p q != 0)) = true then L ++ [p] else L) (p + 1)) r → Ev (fun f => spec_l06Primes.l1 f n L p b (i : Int)) r := by
  induction d with
  | zero =>
    intro i b hi h
    have hd : L.drop i = [] := List.drop_eq_nil_of_le (by omega)
    rw [hd, List.all_nil, Bool.and_true] at h
    refine Ev.step (fun f => ?_) h
    rw [spec_l06Primes.l1, if_neg (by omega), hp]
    by_cases hb : b = true
    · rw [if_pos hb, if_pos hb, if_pos (by omega)]
    · rw [if_neg hb, if_neg hb]
  | succ d ih =>
    intro i b hi h
    have hlt : i < L.length := by omega
    have hd : L.drop i = L.getD i 0 :: L.drop (i + 1) := by
      rw [List.drop_eq_getElem_cons hlt, List.getD_eq_getElem?_getD, List.getElem?_eq_getElem hlt]; rfl
    have hw : wrap64 ((i : Int) + 1) = ((i + 1 : Nat) : Int) := by rw [w64s _ ⟨by omega, by omega⟩]; omega
    have hnz := hz i hlt
    rw [hd, List.all_cons] at h
    have hlti : (i : Int) < (L.length : Int) := by omega
    by_cases hb : b = true
    · subst hb
      rw [Bool.true_and] at h
      have ih := ih (i + 1) (Int.tmod p (L.getD i 0) != 0) (by omega) h
      refine Ev.step (fun f => ?_) ih
      rw [spec_l06Primes.l1, if_pos hlti, if_pos rfl, if_pos (Int.natCast_nonneg i), rd_nat, if_neg hnz, hw]
    · have hbf : b = false := by simpa using hb
      subst hbf
      have ih := ih (i + 1) false (by omega) (by rw [Bool.false_and] at h ⊢; exact h)
      refine Ev.step (fun f => ?_) ih
      rw [spec_l06Primes.l1, if_pos hlti, if_neg (by decide), hw]
theorem primes_l0 (d : Nat) : ∀ (L : List Int) (p : Int), runP d L p = true → primeL.length = 80 → Ev (fun f => spec_l06Primes.l0 f 80 L p) primeL := by
  induction d with
  | zero =>
    intro L p h hl
    have e : L = primeL := by simpa [runP] using h
    subst e
    refine Ev.step (f := fun _ => some primeL) (fun f => ?_) (Ev.now _)
    rw [spec_l06Primes.l0, if_neg (by omega)]
  | succ d ih =>
    intro L p h hl
    unfold runP at h
    simp only [Bool.and_eq_true, decide_eq_true_eq, List.all_eq_true, bne_iff_ne] at h
    obtain ⟨h1, h2, h3, h4⟩ := h
    have ih := ih _ _ h4 hl
    refine Ev.step (f := fun f => spec_l06Primes.l1 f 80 L p true 0) (fun f => ?_) ?_
    · rw [spec_l06Primes.l0, if_pos h1]
    · have hw : wrap64 (p + 1) = p + 1 := w64s _ ⟨by omega, by omega⟩
      have := primes_l1 80 L p primeL (by omega) (fun i hi => by
        rw [List.getD_eq_getElem?_getD, List.getElem?_eq_getElem hi]
        exact h2 _ (List.getElem_mem hi)) hw L.length 0 true (by omega) (by rw [List.drop_zero, Bool.true_and]; exact ih)
      exact this
theorem primes_is : Ev (fun f => spec_l06Primes.f f 80) primeL := by
  have h : runP 408 [] 2 = true := by decide +kernel
  exact primes_l0 408 [] 2 h (by decide +kernel)
theorem frac_is (P r N : Nat) (hr : r < 100) (hP : P < 65536) (hN : N < 2 ^ 70) (h1 : N ^ r ≤ 65536 ^ (4 * r) * P) (h2 : 65536 ^ (4 * r) * P < (N + 1) ^ r) :
    Ev (fun f => spec_l06Frac.f f (P : Int) (r : Int)) (outF (limbs B16 5 N)) := by
  have h := frac_l0 P r N hr hP hN h1 h2 70 (Nat.le_refl _)
  have e : N / 2 ^ 70 * 2 ^ 70 = 0 := by rw [Nat.div_eq_of_lt hN, Nat.zero_mul]
  rw [e] at h
  refine Ev.congr (f := fun f => spec_l06Frac.l0 f (P : Int) (r : Int) (limbs B16 5 0) (((70 : Nat) : Int) - 1)) (fun f => ?_) h
  unfold spec_l06Frac.f
  rw [if_pos (by decide)]
  rfl
/-- some whole part makes the constant the root's fraction -/
def chkF (P : Int) (r : Nat) (c : Int) : Bool :=
  decide (0 ≤ P ∧ P < 65536) && (List.range 30).any fun ip =>
    decide ((ip * 2 ^ 64 + c.toNat) < 2 ^ 70) && (decide ((ip * 2 ^ 64 + c.toNat) ^ r ≤ 65536 ^ (4 * r) * P.toNat) && (decide (65536 ^ (4 * r) * P.toNat < (ip * 2 ^ 64 + c.toNat + 1) ^ r) && (outF (limbs B16 5 (ip * 2 ^ 64 + c.toNat)) == c)))
theorem chk_is (P : Int) (r : Nat) (c : Int) (hr : r < 100) (h : chkF P r c = true) : Ev (fun f => spec_l06Frac.f f P (r : Int)) c := by
  unfold chkF at h
  simp only [Bool.and_eq_true, decide_eq_true_eq, List.any_eq_true, beq_iff_eq] at h
  obtain ⟨⟨hp0, hp1⟩, ip, _, hN, h1, h2, h3⟩ := h
  have := frac_is P.toNat r _ hr (by omega) hN h1 h2
  rw [h3, Int.toNat_of_nonneg hp0] at this
  exact this
theorem ev_all {n : Nat} {g : Nat → Nat → Option Int} {c : Nat → Int} (h : ∀ i, i < n → Ev (g i) (c i)) : ∃ K, ∀ k, K ≤ k → ∀ i, i < n → g i k = some (c i) := by
  induction n with
  | zero => exact ⟨0, fun _ _ i hi => absurd hi (by omega)⟩
  | succ n ih =>
    obtain ⟨K1, h1⟩ := ih (fun i hi => h i (by omega))
    obtain ⟨K2, h2⟩ := h n (by omega)
    refine ⟨K1 + K2, fun k hk i hi => ?_⟩
    by_cases e : i = n
    · subst e; exact h2 k (by omega)
    · exact h1 k (by omega) i (by omega)
theorem chk3 : (List.range 80).all (fun i => chkF (primeL.getD i 0) 3 (shaK.getD i 0)) = true := by decide +kernel
theorem chk2 : (List.range 8).all (fun i => chkF (primeL.getD i 0) 2 (shaH.getD i 0)) = true := by decide +kernel
theorem cons_ev : Ev (fun k => some (consB k)) true := by
  obtain ⟨K1, h1⟩ := primes_is
  have c3 := chk3
  have c2 := chk2
  simp only [List.all_eq_true, List.mem_range] at c3 c2
  obtain ⟨K2, h2⟩ := ev_all (n := 80) (g := fun i f => spec_l06Frac.f f (primeL.getD i 0) 3) (c := fun i => shaK.getD i 0) (fun i hi => chk_is _ 3 _ (by omega) (c3 i hi))
  obtain ⟨K3, h3⟩ := ev_all (n := 8) (g := fun i f => spec_l06Frac.f f (primeL.getD i 0) 2) (c := fun i => shaH.getD i 0) (fun i hi => chk_is _ 2 _ (by omega) (c2 i hi))
  refine ⟨K1 + K2 + K3, fun k hk => ?_⟩
  have e : consB k = true := by
    unfold consB
    simp only [Bool.and_eq_true, beq_iff_eq, List.all_eq_true, List.mem_range]
    exact ⟨h1 k (by omega), h2 k (by omega), h3 k (by omega)⟩
  show some (consB k) = some true
  rw [e]
end Go.Proofs.Ytlphppkhihabdaa.YN

namespace Go.Proofs.Ytlphppkhihabdaa.Pure
open Go.RowKit Go.Proofs.Ytlphppkhihabdaa.Limb Go.Proofs.Ytlphppkhihabdaa.FldA Go.Proofs.Ytlphppkhihabdaa.FldB Go.Proofs.Ytlphppkhihabdaa.FldS Go.Proofs.Ytlphppkhihabdaa.ShaA Go.Proofs.Ytlphppkhihabdaa.Num Go.Proofs.Ytlphppkhihabdaa.YN Go.Proofs.Ytlphppkhihabdaa.XN Go.Proofs.YtlphppkhihabdaaW.PrintWords Go.Proofs.YtlphppkhihabdaaW.PrintLast

theorem be8_ok (x : Int) : Ok 256 (be8 x) := by
  intro y hy
  have h : ∀ z : Int, 0 ≤ z % 256 ∧ z % 256 < ((256 : Nat) : Int) := fun z => ⟨by omega, by omega⟩
  unfold be8 at hy
  simp only [List.mem_cons, List.not_mem_nil, or_false] at hy
  rcases hy with rfl | rfl | rfl | rfl | rfl | rfl | rfl | rfl <;> exact h _
theorem outL_ok (vs : List Int) (k : Nat) : Ok 256 (outL vs k) := by
  induction k with
  | zero => intro x hx; simp [outL] at hx
  | succ k ih =>
    intro x hx
    rcases List.mem_append.mp (show x ∈ outL vs k ++ be8 _ from hx) with hx | hx
    · exact ih x hx
    · exact be8_ok _ x hx
theorem ok_okB (l : List Int) (h : Ok 256 l) : okB l = true := by
  rw [okB, List.all_eq_true]
  intro x hx
  have hb := h x hx
  rw [decide_eq_true hb.1, decide_eq_true (show x < 256 from hb.2)]; rfl
theorem sc_again (x : Nat) : bval (limbs 256 32 (x % orderN)) % orderN = x % orderN := by
  have h1 : x % orderN < orderN := Nat.mod_lt _ (by decide)
  have h2 : orderN < 256 ^ 32 := by decide
  have h3 : bval (limbs 256 32 (x % orderN)) = x % orderN := by
    have h := bval_cast (limbs 256 32 (x % orderN)) (limbs_ok 256 (by decide) 32 _)
    rw [lval_limbs 256 (by decide), Nat.mod_eq_of_lt (Nat.lt_trans h1 h2)] at h
    exact Int.ofNat.inj h
  rw [h3, Nat.mod_eq_of_lt h1]
theorem impl_sh (l : List Int) (h : l.length ≤ 65536) : impl_Sha512.f l = some (digest l, 0) := by
  unfold impl_Sha512.f
  rw [if_pos (by omega)]
theorem spec_sh (l : List Int) (h : l.length ≤ 65536) : Ev (fun k => spec_Sha512.f k l) (digest l, 0) := by
  obtain ⟨K, hK⟩ := cons_ev
  refine ⟨K, fun k hk => ?_⟩
  have hc : consB k = true := by have := hK k hk; simpa using this
  show spec_Sha512.f k l = _
  unfold spec_Sha512.f
  rw [if_neg (by omega), if_pos hc, digest_eq]
theorem sc_f (l : List Int) (h : Ok 256 l) (hl : l.length ≤ 64) : impl_ScalarOf.f l = some (limbs 256 32 (bval l % orderN), 0) := by
  unfold impl_ScalarOf.f
  rw [if_neg (by omega), if_neg (by omega), if_pos (ok_okB l h)]
theorem FnHash : laws_FnHash.Pure := by
  intro l _ _ hw
  refine Ev.rounds (g := fun k => laws_FnHash.f k l) ?_
  unfold laws_FnHash.f
  by_cases hl : (l.length : Int) > 4000
  · simp only [if_pos hl]; exact Ev.now _
  · simp only [if_neg hl]
    have hs := spec_sh l (by omega)
    have hi := impl_sh l (by omega)
    have hd : (digest l).length = 64 := by show (outL _ 8).length = 64; rw [outL_length]
    have ho : Ok 256 (digest l) := outL_ok _ 8
    generalize digest l = h at *
    rw [hi]
    simp only [Option.bind_some]
    refine Ev.bind hs ?_
    simp only [if_true, hd]
    have h1 := sc_f h ho (by omega)
    have h2 := sc_f (limbs 256 32 (bval h % orderN)) (limbs_ok 256 (by decide) 32 _) (by rw [limbs_length]; omega)
    rw [sc_again] at h2
    refine Ev.step (f := fun _ => some true) (fun k => ?_) (Ev.now _)
    have e : ((strOfNums h).toList != (strOfNums h).toList) = false := by rw [bne_self_eq_false]
    rw [e]
    simp only [laws_FnHash.j0, h1, h2, Option.bind_some, limbs_length]
    simp
end Go.Proofs.Ytlphppkhihabdaa.Pure
