/- Plain facts on the reference's product in sixteen pieces; no program in sight. -/
import Derived.Test.YtlajcahlmbjmnaaYFldC
namespace Go.Proofs.Ytlajcahlmbjmnaa.FldM
open Go.RowKit Go.Proofs.Ytlajcahlmbjmnaa.Arr Go.Proofs.Ytlajcahlmbjmnaa.Limb Go.Proofs.Ytlajcahlmbjmnaa.FldA Go.Proofs.Ytlajcahlmbjmnaa.FldB Go.Proofs.Ytlajcahlmbjmnaa.FldC Go.Proofs.YtlajcahlmbjmnaaW.PrintWords
set_option linter.unusedVariables false
theorem rep_getD (n j : Nat) : (List.replicate n (0 : Int)).getD j 0 = 0 := by
  rw [List.getD_eq_getElem?_getD, List.getElem?_replicate]
  split <;> rfl
def mulR (xs ys : List Int) (i : Nat) (W : List Int) : Nat → List Int
  | 0 => W
  | k + 1 => (mulR xs ys i W k).set (i + k) ((mulR xs ys i W k).getD (i + k) 0 + xs.getD i 0 * ys.getD k 0)
def mulW (xs ys : List Int) : Nat → List Int
  | 0 => List.replicate 32 0
  | i + 1 => mulR xs ys i (mulW xs ys i) 16
theorem mulR_length (xs ys W : List Int) (i k : Nat) : (mulR xs ys i W k).length = W.length := by
  induction k with
  | zero => rfl
  | succ k ih => simp [mulR, ih]
theorem mulW_length (xs ys : List Int) (i : Nat) : (mulW xs ys i).length = 32 := by
  induction i with
  | zero => simp [mulW]
  | succ i ih => simp [mulW, mulR_length, ih]
def Nb (b : Int) (xs : List Int) : Prop := ∀ i, 0 ≤ xs.getD i 0 ∧ xs.getD i 0 ≤ b
theorem Nb.set {b c : Int} {xs : List Int} (h : Nb b xs) (hbc : b ≤ c) (k : Nat) (v : Int) (h0 : 0 ≤ v) (h1 : v ≤ c) : Nb c (xs.set k v) := by
  intro i
  have hi := h i
  by_cases hk : k < xs.length
  · rw [getD_setI _ _ _ _ hk]
    split
    · exact ⟨h0, h1⟩
    · omega
  · rw [List.set_eq_of_length_le (by omega)]; omega
theorem prod_le (a b : Int) (ha : 0 ≤ a ∧ a < 65536) (hb : 0 ≤ b ∧ b < 65536) : 0 ≤ a * b ∧ a * b ≤ 4294836225 := by
  refine ⟨Int.mul_nonneg ha.1 hb.1, ?_⟩
  have h1 : a * b ≤ 65535 * b := Int.mul_le_mul_of_nonneg_right (by omega) hb.1
  omega
theorem mulR_nb (x y i : Nat) (W : List Int) (b : Int) (hb : Nb b W) (k : Nat) : Nb (b + 4294836225 * k) (mulR (fe x) (fe y) i W k) := by
  induction k with
  | zero => simpa [mulR] using hb
  | succ k ih =>
    have h := ih (i + k)
    have p := prod_le _ _ (fe_getD x i) (fe_getD y k)
    simp only [mulR]
    exact ih.set (by omega) _ _ (by omega) (by omega)
theorem mulW_nb (x y i : Nat) : Nb (68717379600 * i) (mulW (fe x) (fe y) i) := by
  induction i with
  | zero =>
    intro j
    unfold mulW
    rw [rep_getD]; simp
  | succ i ih =>
    have := mulR_nb x y i _ _ ih 16
    intro j
    have h := this j
    simp only [mulW]
    omega
theorem mulR_val (xs ys W : List Int) (i : Nat) (hi : i < 16) (hW : W.length = 32) (hy : ys.length = 16) (k : Nat) (hk : k ≤ 16) :
    lval 65536 (mulR xs ys i W k) = lval 65536 W + ((65536 : Nat) : Int) ^ i * (xs.getD i 0 * lval 65536 (ys.take k)) := by
  induction k with
  | zero => simp [mulR, lval]
  | succ k ih =>
    simp only [mulR]
    rw [lval_set _ _ _ _ (by rw [mulR_length]; omega), ih (by omega), List.take_succ_eq_append_getElem (by omega), lval_append]
    have e : ys[k]'(by omega) = ys.getD k 0 := by rw [List.getD_eq_getElem?_getD, List.getElem?_eq_getElem (by omega)]; rfl
    rw [e, List.length_take, Nat.min_eq_left (by omega), Int.pow_add]
    simp only [lval]
    generalize (mulR xs ys i W k).getD (i + k) 0 = a
    generalize ys.getD k 0 = b
    generalize ((65536 : Nat) : Int) ^ k = P
    generalize ((65536 : Nat) : Int) ^ i = Q
    grind
theorem mulW_val (xs ys : List Int) (hx : xs.length = 16) (hy : ys.length = 16) (i : Nat) (hi : i ≤ 16) : lval 65536 (mulW xs ys i) = lval 65536 (xs.take i) * lval 65536 ys := by
  induction i with
  | zero =>
    simp only [mulW, List.take_zero, lval, Int.zero_mul]
    decide
  | succ i ih =>
    simp only [mulW]
    rw [mulR_val _ _ _ _ (by omega) (mulW_length _ _ _) hy 16 (by omega), ih (by omega), List.take_of_length_le (by omega : ys.length ≤ 16), List.take_succ_eq_append_getElem (by omega), lval_append]
    have e : xs[i]'(by omega) = xs.getD i 0 := by rw [List.getD_eq_getElem?_getD, List.getElem?_eq_getElem (by omega)]; rfl
    rw [e, List.length_take, Nat.min_eq_left (by omega)]
    simp only [lval]
    generalize lval 65536 ys = Y
    generalize ((65536 : Nat) : Int) ^ i = Q
    generalize xs.getD i 0 = a
    grind
def fldS (W : List Int) : Nat → List Int
  | 0 => List.replicate 16 0
  | k + 1 => (fldS W k).set k (W.getD k 0 + 38 * W.getD (k + 16) 0)
theorem fldS_length (W : List Int) (k : Nat) : (fldS W k).length = 16 := by
  induction k with
  | zero => simp [fldS]
  | succ k ih => simp [fldS, ih]
theorem fldS_rest (W : List Int) (k : Nat) : ∀ j, k ≤ j → (fldS W k).getD j 0 = 0 := by
  induction k with
  | zero =>
    intro j _
    exact rep_getD 16 j
  | succ k ih =>
    intro j hj
    unfold fldS
    by_cases hk : k < (fldS W k).length
    · rw [getD_setI _ _ _ _ hk, if_neg (by omega)]; exact ih j (by omega)
    · rw [List.set_eq_of_length_le (by omega)]; exact ih j (by omega)
theorem fldS_nb (W : List Int) (b : Int) (h : Nb b W) (k : Nat) : Nb (39 * b) (fldS W k) := by
  have hb : 0 ≤ b := by have := h 0; omega
  induction k with
  | zero =>
    intro j
    rw [fldS_rest _ _ _ (Nat.zero_le j)]; omega
  | succ k ih =>
    have h1 := h k
    have h2 := h (k + 16)
    unfold fldS
    exact ih.set (Int.le_refl _) _ _ (by omega) (by omega)
theorem fldS_val (W : List Int) (hW : W.length = 32) (k : Nat) (hk : k ≤ 16) : lval 65536 (fldS W k) = lval 65536 (W.take k) + 38 * lval 65536 ((W.drop 16).take k) := by
  induction k with
  | zero => simp only [fldS, List.take_zero, lval]; decide
  | succ k ih =>
    unfold fldS
    rw [lval_set _ _ _ _ (by rw [fldS_length]; omega), ih (by omega), fldS_rest _ _ _ (Nat.le_refl k), List.take_succ_eq_append_getElem (by omega), lval_append, List.take_succ_eq_append_getElem (l := W.drop 16) (by rw [List.length_drop]; omega), lval_append]
    have e : W[k]'(by omega) = W.getD k 0 := by rw [List.getD_eq_getElem?_getD, List.getElem?_eq_getElem (by omega)]; rfl
    have e2 : (W.drop 16)[k]'(by rw [List.length_drop]; omega) = W.getD (k + 16) 0 := by rw [Nat.add_comm k 16, List.getElem_drop, List.getD_eq_getElem?_getD, List.getElem?_eq_getElem (by omega)]; rfl
    rw [e, e2, List.length_take, List.length_take, List.length_drop, Nat.min_eq_left (by omega), Nat.min_eq_left (by omega)]
    simp only [lval]
    generalize W.getD k 0 = a
    generalize W.getD (k + 16) 0 = b
    generalize ((65536 : Nat) : Int) ^ k = P
    grind
def mulT (x y : Nat) : List Int := fldS (mulW (fe x) (fe y) 16) 16
theorem mul_fe (x y : Nat) (hx : x < BB) (hy : y < BB) : Bd (mulT x y) ∧ ∃ c, c < BB ∧ carN (mulT x y) 3 = fe c ∧ c % PP = x * y % PP := by
  have hw := mulW_nb x y 16
  have hn := fldS_nb _ _ hw 16
  have hbd : Bd (mulT x y) := fun i => by have := hn i; unfold mulT; omega
  have hl : (mulT x y).length = 16 := fldS_length _ _
  have hv := mulW_val (fe x) (fe y) (fe_length x) (fe_length y) 16 (by omega)
  rw [List.take_of_length_le (by rw [fe_length]; omega), fe_lval x hx, fe_lval y hy] at hv
  have hf := fldS_val (mulW (fe x) (fe y) 16) (mulW_length _ _ _) 16 (by omega)
  have hd : ((mulW (fe x) (fe y) 16).drop 16).take 16 = (mulW (fe x) (fe y) 16).drop 16 := List.take_of_length_le (by rw [List.length_drop, mulW_length]; omega)
  rw [hd] at hf
  have hs := lval_append 65536 ((mulW (fe x) (fe y) 16).take 16) ((mulW (fe x) (fe y) 16).drop 16)
  rw [List.take_append_drop, hv, List.length_take, mulW_length, Nat.min_eq_left (by omega)] at hs
  refine ⟨hbd, ?_⟩
  have hge : 0 ≤ lval 65536 (mulT x y) := by
    have o : ∀ l : List Int, (∀ x ∈ l, 0 ≤ x) → 0 ≤ lval 65536 l := by
      intro l
      induction l with
      | nil => intro _; simp [lval]
      | cons a l ih =>
        intro h
        have h1 := h a (by simp)
        have h2 := ih (fun z hz => h z (by simp [hz]))
        simp only [lval]; omega
    refine o _ (fun z hz => ?_)
    obtain ⟨j, hj, rfl⟩ := List.getElem_of_mem hz
    have := (hn j).1
    change 0 ≤ (mulT x y).getD j 0 at this
    rw [List.getD_eq_getElem?_getD, List.getElem?_eq_getElem hj] at this
    exact this
  obtain ⟨c, h1, h2, h3⟩ := carN_fe _ hbd hl _ rfl (by omega)
  refine ⟨c, h1, h2, ?_⟩
  have e : lval 65536 (mulT x y) % PP = ((x * y : Nat) : Int) % PP := by
    have e1 : ((x * y : Nat) : Int) = (x : Int) * y := by simp
    rw [e1, hs]
    have e2 : lval 65536 (mulT x y) = lval 65536 ((mulW (fe x) (fe y) 16).take 16) + 38 * lval 65536 ((mulW (fe x) (fe y) 16).drop 16) := hf
    rw [e2, show ((65536 : Nat) : Int) ^ 16 = 115792089237316195423570985008687907853269984665640564039457584007913129639936 from by decide, PP_int]
    generalize lval 65536 ((mulW (fe x) (fe y) 16).take 16) = a
    generalize lval 65536 ((mulW (fe x) (fe y) 16).drop 16) = b
    omega
  rw [e] at h3
  rw [PP_int] at h3; rw [PP_eq]
  generalize x * y = z at *
  omega
end Go.Proofs.Ytlajcahlmbjmnaa.FldM
