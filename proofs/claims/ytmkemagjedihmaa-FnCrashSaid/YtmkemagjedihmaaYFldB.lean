/- Plain facts on the reference's numbers in sixteen pieces: what its loops come to; no program in sight. -/
import Derived.Test.YtmkemagjedihmaaYFldA
import Derived.Laws.BytesArg
import Derived.Laws.Strings
namespace Go.Proofs.Ytmkemagjedihmaa.FldB
open Go.RowKit Go.Proofs.Ytmkemagjedihmaa.Arr Go.Proofs.Ytmkemagjedihmaa.Limb Go.Proofs.Ytmkemagjedihmaa.FldA Go.Proofs.YtmkemagjedihmaaW.PrintWords
set_option linter.unusedVariables false

def ofS (l : List Int) : Nat → List Int
  | 0 => List.replicate 16 0
  | k + 1 => (ofS l k).set k (l.getD (2 * k) 0 + 256 * l.getD (2 * k + 1) 0)
theorem ofS_length (l : List Int) (k : Nat) : (ofS l k).length = 16 := by
  induction k with
  | zero => simp [ofS]
  | succ k ih => simp [ofS, ih]
def carS (xs : List Int) : Nat → List Int × Int
  | 0 => (xs, 0)
  | k + 1 => ((carS xs k).1.set k (((carS xs k).1.getD k 0 + (carS xs k).2) - ((carS xs k).1.getD k 0 + (carS xs k).2) / 65536 * 65536), ((carS xs k).1.getD k 0 + (carS xs k).2) / 65536)
def carR (xs : List Int) : List Int := (carS xs 16).1.set 0 ((carS xs 16).1.getD 0 0 + 38 * (carS xs 16).2)
def carN (xs : List Int) : Nat → List Int
  | 0 => xs
  | k + 1 => carR (carN xs k)
def Bd (xs : List Int) : Prop := ∀ i, -4503599627370496 ≤ xs.getD i 0 ∧ xs.getD i 0 ≤ 4503599627370496
theorem Bd.set {xs : List Int} (h : Bd xs) (k : Nat) (v : Int) (h0 : -4503599627370496 ≤ v) (h1 : v ≤ 4503599627370496) : Bd (xs.set k v) := by
  intro i
  by_cases hk : k < xs.length
  · rw [getD_setI _ _ _ _ hk]
    split
    · exact ⟨h0, h1⟩
    · exact h i
  · rw [List.set_eq_of_length_le (by omega)]; exact h i
theorem carS_length (xs : List Int) (k : Nat) : (carS xs k).1.length = xs.length := by
  induction k with
  | zero => rfl
  | succ k ih => simp [carS, ih]
theorem carS_bd (xs : List Int) (h : Bd xs) (k : Nat) : Bd (carS xs k).1 ∧ -137438953473 ≤ (carS xs k).2 ∧ (carS xs k).2 ≤ 137438953473 := by
  induction k with
  | zero => exact ⟨h, by simp [carS], by simp [carS]⟩
  | succ k ih =>
    have b := ih.1 k
    simp only [carS]
    generalize (carS xs k).1.getD k 0 = a at *
    generalize (carS xs k).2 = c at *
    exact ⟨ih.1.set k _ (by omega) (by omega), by omega, by omega⟩
theorem carR_bd (xs : List Int) (h : Bd xs) (hl : xs.length = 16) : Bd (carR xs) ∧ (carR xs).length = 16 := by
  have h1 := carS_bd xs h 15
  have h2 := carS_bd xs h 16
  refine ⟨?_, by simp [carR, carS_length, hl]⟩
  have hk : ∀ n, 0 < n → n ≤ 16 → 0 ≤ (carS xs n).1.getD 0 0 ∧ (carS xs n).1.getD 0 0 < 65536 := by
    intro n
    induction n with
    | zero => intro h; omega
    | succ n ih =>
      intro _ hn
      simp only [carS]
      rw [getD_setI _ _ _ _ (by rw [carS_length]; omega)]
      split
      · generalize (carS xs n).1.getD n 0 + (carS xs n).2 = v; omega
      · exact ih (by omega) (by omega)
  have h3 := hk 16 (by omega) (by omega)
  exact h2.1.set 0 _ (by omega) (by omega)
theorem carN_bd (xs : List Int) (h : Bd xs) (hl : xs.length = 16) (n : Nat) : Bd (carN xs n) ∧ (carN xs n).length = 16 := by
  induction n with
  | zero => exact ⟨h, hl⟩
  | succ n ih => exact carR_bd _ ih.1 ih.2
def Bs (xs : List Int) : Prop := ∀ i, -17592186044416 ≤ xs.getD i 0 ∧ xs.getD i 0 ≤ 17592186044416
theorem Bs.bd {xs : List Int} (h : Bs xs) : Bd xs := fun i => by have := h i; omega
theorem Bs.set {xs : List Int} (h : Bs xs) (k : Nat) (v : Int) (h0 : -17592186044416 ≤ v) (h1 : v ≤ 17592186044416) : Bs (xs.set k v) := by
  intro i
  by_cases hk : k < xs.length
  · rw [getD_setI _ _ _ _ hk]
    split
    · exact ⟨h0, h1⟩
    · exact h i
  · rw [List.set_eq_of_length_le (by omega)]; exact h i
theorem getD_ge (xs : List Int) (i : Nat) (h : xs.length ≤ i) : xs.getD i 0 = 0 := by
  rw [List.getD_eq_getElem?_getD, List.getElem?_eq_none h]; rfl
theorem carS_lo (xs : List Int) (hl : xs.length = 16) (n : Nat) (hn : n ≤ 16) : ∀ i, i < n → 0 ≤ (carS xs n).1.getD i 0 ∧ (carS xs n).1.getD i 0 < 65536 := by
  induction n with
  | zero => intro i h; omega
  | succ n ih =>
    intro i hi
    simp only [carS]
    rw [getD_setI _ _ _ _ (by rw [carS_length]; omega)]
    split
    · generalize (carS xs n).1.getD n 0 + (carS xs n).2 = v; omega
    · exact ih (by omega) i (by omega)
theorem carS_bs (xs : List Int) (hl : xs.length = 16) : Bs (carS xs 16).1 := by
  intro i
  by_cases h : i < 16
  · have := carS_lo xs hl 16 (by omega) i h; omega
  · rw [getD_ge _ _ (by rw [carS_length]; omega)]; omega
theorem carR_bs (xs : List Int) (h : Bd xs) (hl : xs.length = 16) : Bs (carR xs) := by
  have h1 := carS_bs xs hl
  have h2 := carS_bd xs h 16
  have h3 := carS_lo xs hl 16 (by omega) 0 (by omega)
  exact h1.set 0 _ (by omega) (by omega)
theorem carN_bs (xs : List Int) (h : Bd xs) (hl : xs.length = 16) (n : Nat) (hn : 0 < n) : Bs (carN xs n) := by
  cases n with
  | zero => omega
  | succ n => exact carR_bs _ (carN_bd xs h hl n).1 (carN_bd xs h hl n).2
def lstB (ys : List Int) : List Int := ys.set 0 (ys.getD 0 0 + 19)
def lstR (ys : List Int) : List Int :=
  if 32768 ≤ (carS (lstB ys) 16).1.getD 15 0 ∨ 0 < (carS (lstB ys) 16).2 then
    (if 0 < (carS (lstB ys) 16).2 then ((carS (lstB ys) 16).1.set 15 ((carS (lstB ys) 16).1.getD 15 0 - 32768)).set 15 ((carS (lstB ys) 16).1.getD 15 0 - 32768 + 65536) else (carS (lstB ys) 16).1.set 15 ((carS (lstB ys) 16).1.getD 15 0 - 32768))
  else ys
def lstN (xs : List Int) : Nat → List Int
  | 0 => carN xs 3
  | k + 1 => lstR (lstN xs k)
theorem lstB_bd (ys : List Int) (h : Bs ys) (hl : ys.length = 16) : Bd (lstB ys) ∧ (lstB ys).length = 16 := by
  have := h 0
  exact ⟨h.bd.set 0 _ (by omega) (by omega), by simp [lstB, hl]⟩
theorem lstR_bs (ys : List Int) (h : Bs ys) (hl : ys.length = 16) : Bs (lstR ys) ∧ (lstR ys).length = 16 := by
  obtain ⟨b1, b2⟩ := lstB_bd ys h hl
  have h1 := carS_bs (lstB ys) b2
  have h3 := carS_lo (lstB ys) b2 16 (by omega) 15 (by omega)
  have hl2 := carS_length (lstB ys) 16
  unfold lstR
  split
  · split
    · exact ⟨(h1.set 15 _ (by omega) (by omega)).set 15 _ (by omega) (by omega), by simp [hl2, b2]⟩
    · exact ⟨h1.set 15 _ (by omega) (by omega), by simp [hl2, b2]⟩
  · exact ⟨h, hl⟩
theorem lstN_bs (xs : List Int) (h : Bd xs) (hl : xs.length = 16) (n : Nat) : Bs (lstN xs n) ∧ (lstN xs n).length = 16 := by
  induction n with
  | zero => exact ⟨carN_bs xs h hl 3 (by omega), (carN_bd xs h hl 3).2⟩
  | succ n ih => exact lstR_bs _ ih.1 ih.2
def bysS (ys : List Int) : Nat → List Int
  | 0 => []
  | k + 1 => bysS ys k ++ [ys.getD k 0 % 256, ys.getD k 0 / 256]
theorem bysS_length (ys : List Int) (k : Nat) : (bysS ys k).length = 2 * k := by
  induction k with
  | zero => rfl
  | succ k ih => simp [bysS, ih]; omega
def PP : Nat := 57896044618658097711785492504343953926634992332820282019728792003956564819949
def BB : Nat := 115792089237316195423570985008687907853269984665640564039457584007913129639936
theorem PP_eq : PP = 57896044618658097711785492504343953926634992332820282019728792003956564819949 := rfl
theorem BB_eq : BB = 115792089237316195423570985008687907853269984665640564039457584007913129639936 := rfl
theorem BB_pow : 65536 ^ 16 = BB := by decide
theorem num_mod (x : Nat) : num (x % BB) = num x := limbs_mod P64 (by decide) 4 x
theorem carS_val (xs : List Int) (hl : xs.length = 16) (k : Nat) (hk : k ≤ 16) : lval 65536 (carS xs k).1 + 65536 ^ k * (carS xs k).2 = lval 65536 xs := by
  induction k with
  | zero => simp [carS]
  | succ k ih =>
    have ih := ih (by omega)
    simp only [carS]
    rw [lval_set _ _ _ _ (by rw [carS_length]; omega)]
    generalize hL : lval 65536 (carS xs k).1 = L at *
    generalize (carS xs k).1.getD k 0 = a at *
    generalize (carS xs k).2 = c at *
    obtain ⟨q, hq⟩ : ∃ q, q = (a + c) / 65536 := ⟨_, rfl⟩
    rw [← hq, ← ih, Int.pow_succ]
    simp only [show ((65536 : Nat) : Int) = 65536 from rfl]
    generalize (65536 : Int) ^ k = P
    grind
theorem carS_ok (xs : List Int) (hl : xs.length = 16) : Ok 65536 (carS xs 16).1 := by
  intro x hx
  obtain ⟨i, hi, rfl⟩ := List.getElem_of_mem hx
  have h := carS_lo xs hl 16 (by omega) i (by rw [carS_length] at hi; omega)
  rw [List.getD_eq_getElem?_getD, List.getElem?_eq_getElem hi] at h
  exact h
theorem carS_eq (xs : List Int) (hl : xs.length = 16) (V : Int) (hV : lval 65536 xs = V) : (carS xs 16).1 = fe (V % BB).toNat ∧ (carS xs 16).2 = V / BB := by
  have h := carS_val xs hl 16 (by omega)
  have o := carS_ok xs hl
  have h0 := lval_nonneg 65536 _ o
  have h1 : lval 65536 (carS xs 16).1 < BB := by
    have a1 := limbs_lval 65536 (by decide) _ o
    rw [carS_length, hl] at a1
    have a2 := lval_limbs 65536 (by decide) 16 (lval 65536 (carS xs 16).1).toNat
    rw [a1, BB_pow] at a2
    have := Nat.mod_lt (lval 65536 (carS xs 16).1).toNat (show 0 < BB by decide)
    omega
  rw [hV, show (65536 : Int) ^ 16 = (BB : Int) from by decide] at h
  have e2 : (carS xs 16).2 = V / BB := by
    rw [BB_eq] at h h1 ⊢
    omega
  have e1 : lval 65536 (carS xs 16).1 = V % BB := by
    rw [BB_eq] at h h1 ⊢
    omega
  refine ⟨eq_fe o (by rw [carS_length, hl]) _ ?_, e2⟩
  rw [e1, BB_pow]
  have := Int.emod_nonneg V (show (BB : Int) ≠ 0 by decide)
  have h3 := Int.emod_lt_of_pos V (show (0 : Int) < BB by decide)
  rw [Nat.mod_eq_of_lt (by omega)]
  omega
theorem carR_val (xs : List Int) (hl : xs.length = 16) (V : Int) (hV : lval 65536 xs = V) : lval 65536 (carR xs) = V % BB + 38 * (V / BB) := by
  obtain ⟨e1, e2⟩ := carS_eq xs hl V hV
  have h := carS_val xs hl 16 (by omega)
  unfold carR
  rw [lval_set _ _ _ _ (by rw [carS_length]; omega), e2]
  rw [hV, e2, show (65536 : Int) ^ 16 = (BB : Int) from by decide] at h
  have := Int.emod_add_mul_ediv V BB
  simp only [Int.pow_zero]
  generalize (carS xs 16).1.getD 0 0 = z
  generalize V / (BB : Int) = q at *
  generalize V % (BB : Int) = r at *
  generalize lval 65536 (carS xs 16).1 = L at *
  have e : L = r := by omega
  omega
theorem set_getD_self (l : List Int) (i : Nat) (hi : i < l.length) : l.set i (l.getD i 0) = l := by
  rw [List.getD_eq_getElem?_getD, List.getElem?_eq_getElem hi]
  simp
theorem carR_fe (xs : List Int) (hl : xs.length = 16) (y : Nat) (hy : y < BB) (hV : lval 65536 xs = y) : carR xs = fe y := by
  obtain ⟨e1, e2⟩ := carS_eq xs hl y hV
  have q0 : (y : Int) / BB = 0 := by rw [BB_eq] at hy ⊢; omega
  have r0 : ((y : Int) % BB).toNat = y := by rw [BB_eq] at hy ⊢; omega
  rw [q0] at e2
  rw [r0] at e1
  unfold carR
  rw [e2, Int.mul_zero, Int.add_zero, set_getD_self _ _ (by rw [carS_length]; omega), e1]
theorem BB_int : (BB : Int) = (115792089237316195423570985008687907853269984665640564039457584007913129639936 : Int) := rfl
theorem PP_int : (PP : Int) = (57896044618658097711785492504343953926634992332820282019728792003956564819949 : Int) := rfl
theorem carR_step (xs : List Int) (hl : xs.length = 16) (V : Int) (hV : lval 65536 xs = V) : ∃ V1, lval 65536 (carR xs) = V1 ∧ V1 = V % (115792089237316195423570985008687907853269984665640564039457584007913129639936 : Int) + 38 * (V / (115792089237316195423570985008687907853269984665640564039457584007913129639936 : Int)) ∧ V1 % (57896044618658097711785492504343953926634992332820282019728792003956564819949 : Int) = V % (57896044618658097711785492504343953926634992332820282019728792003956564819949 : Int) := by
  refine ⟨_, carR_val xs hl V hV, rfl, ?_⟩
  rw [BB_int]
  have e : V % (115792089237316195423570985008687907853269984665640564039457584007913129639936 : Int) + 38 * (V / (115792089237316195423570985008687907853269984665640564039457584007913129639936 : Int)) = V + (57896044618658097711785492504343953926634992332820282019728792003956564819949 : Int) * (-2 * (V / (115792089237316195423570985008687907853269984665640564039457584007913129639936 : Int))) := by omega
  rw [e, Int.add_mul_emod_self_left]
/- three rounds of carrying: the same number, modulo the prime, in normal pieces -/
theorem carN_fe (xs : List Int) (hb : Bd xs) (hl : xs.length = 16) (V : Int) (hV : lval 65536 xs = V) (hlo : -1000 ≤ V) : ∃ c : Nat, c < BB ∧ carN xs 3 = fe c ∧ (c : Int) % PP = V % PP := by
  have c0 := (carS_bd xs hb 16).2
  have e2 := (carS_eq xs hl V hV).2
  rw [e2, BB_int] at c0
  clear e2
  obtain ⟨V1, w1, v1, p1⟩ := carR_step xs hl V hV
  have l1 := (carR_bd xs hb hl).2
  have l2 := (carR_bd _ (carR_bd xs hb hl).1 l1).2
  obtain ⟨V2, w2, v2, p2⟩ := carR_step _ l1 V1 w1
  have b1 : 0 ≤ V1 := by omega
  have b2 : V1 < (115792089237316195423570985008687907853269984665640564039457584007913129639936 : Int) + 5222680300000 := by omega
  have b3 : 0 ≤ V2 := by omega
  have b4 : V2 < (115792089237316195423570985008687907853269984665640564039457584007913129639936 : Int) := by omega
  obtain ⟨c, hc⟩ := Int.eq_ofNat_of_zero_le b3
  refine ⟨c, by rw [BB_eq]; omega, ?_, by rw [← hc, PP_int, p2, p1]⟩
  exact carR_fe _ l2 c (by rw [BB_eq]; omega) (by rw [w2, hc])
theorem fe_bd (x : Nat) : Bd (fe x) := by
  intro i
  by_cases h : i < 16
  · have := getD_range (fe_ok x) i (by rw [fe_length]; exact h)
    omega
  · rw [getD_ge _ _ (by rw [fe_length]; omega)]; omega
theorem lstR_fe (y : Nat) (hy : y < BB) : lstR (fe y) = fe (if PP ≤ y then y - PP else y) := by
  have hv : lval 65536 (fe y) = y := by rw [fe_val, BB_pow, Nat.mod_eq_of_lt hy]
  have hlen : (lstB (fe y)).length = 16 := by simp [lstB, fe_length]
  have hvb : lval 65536 (lstB (fe y)) = ((y + 19 : Nat) : Int) := by
    unfold lstB
    rw [lval_set _ _ _ _ (by rw [fe_length]; omega), hv]
    simp only [Int.pow_zero]; omega
  obtain ⟨e1, e2⟩ := carS_eq _ hlen _ hvb
  have hz : (((y + 19 : Nat) : Int) % BB).toNat = (y + 19) % BB := by rw [BB_eq]; omega
  rw [hz] at e1
  have e15 : (carS (lstB (fe y)) 16).1.getD 15 0 = (((y + 19) % BB / 65536 ^ 15 : Nat) : Int) := by
    rw [e1]
    unfold fe
    rw [limbs_getD _ _ _ _ (by omega), Nat.mod_eq_of_lt]
    rw [Nat.div_lt_iff_lt_mul (by decide)]
    have := Nat.mod_lt (y + 19) (show 0 < BB by decide)
    have h2 : 65536 * 65536 ^ 15 = BB := by decide
    omega
  have h15 : 65536 ^ 15 = 1766847064778384329583297500742918515827483896875618958121606201292619776 := by decide
  have vl := carS_val _ hlen 16 (by omega)
  have ol := carS_ok _ hlen
  have ll := carS_length (lstB (fe y)) 16
  rw [hlen] at ll
  unfold lstR
  by_cases hp : PP ≤ y
  · rw [if_pos hp]
    by_cases hc : y + 19 < BB
    · have q0 : (carS (lstB (fe y)) 16).2 = 0 := by rw [e2, BB_eq] at *; omega
      have m0 : (y + 19) % BB = y + 19 := Nat.mod_eq_of_lt hc
      rw [m0] at e15
      have g : 32768 ≤ (carS (lstB (fe y)) 16).1.getD 15 0 := by rw [e15, h15]; rw [PP_eq] at hp; omega
      rw [if_pos (Or.inl g), if_neg (by rw [q0]; omega)]
      refine eq_fe (ok_set ol _ _ (by omega) ?_) (by simp [ll]) _ ?_
      · have := getD_range ol 15 (by omega); omega
      · rw [lval_set _ _ _ _ (by omega)]
        rw [q0, hvb] at vl
        rw [BB_pow, Nat.mod_eq_of_lt (by omega)]
        rw [show ((65536 : Nat) : Int) ^ 15 = 1766847064778384329583297500742918515827483896875618958121606201292619776 from by decide]
        rw [PP_eq] at *
        omega
    · have q0 : (carS (lstB (fe y)) 16).2 = 1 := by rw [e2, BB_eq] at *; omega
      have z15 : (carS (lstB (fe y)) 16).1.getD 15 0 = 0 := by
        rw [e15, h15]; rw [BB_eq] at *; omega
      rw [if_pos (Or.inr (by rw [q0]; omega)), if_pos (by rw [q0]; omega), z15]
      have L2 : (((carS (lstB (fe y)) 16).1.set 15 (0 - 32768)).set 15 (0 - 32768 + 65536)) = (carS (lstB (fe y)) 16).1.set 15 32768 := by simp
      rw [L2]
      refine eq_fe (ok_set ol _ _ (by omega) (by omega)) (by simp [ll]) _ ?_
      rw [lval_set _ _ _ _ (by omega), z15]
      rw [q0, hvb] at vl
      rw [BB_pow, Nat.mod_eq_of_lt (by omega)]
      rw [show ((65536 : Nat) : Int) ^ 15 = 1766847064778384329583297500742918515827483896875618958121606201292619776 from by decide]
      rw [PP_eq] at *
      omega
  · rw [if_neg hp, if_neg ?_]
    have q0 : (carS (lstB (fe y)) 16).2 = 0 := by rw [e2, BB_int]; rw [PP_eq] at hp; omega
    have m0 : (y + 19) % BB = y + 19 := Nat.mod_eq_of_lt (by rw [BB_eq]; rw [PP_eq] at hp; omega)
    rw [m0] at e15
    rw [q0, e15, h15]
    rw [PP_eq] at hp
    omega
theorem lst_fe (y : Nat) (hy : y < BB) : lstR (lstR (fe y)) = fe (y % PP) := by
  rw [lstR_fe y hy]
  by_cases h : PP ≤ y
  · rw [if_pos h, lstR_fe _ (by omega)]
    by_cases h2 : PP ≤ y - PP
    · rw [if_pos h2, show y - PP - PP = y % PP from by rw [PP_eq] at h h2 ⊢; rw [BB_eq] at hy; omega]
    · rw [if_neg h2, show y - PP = y % PP from by rw [PP_eq] at h h2 ⊢; rw [BB_eq] at hy; omega]
  · rw [if_neg h, lstR_fe _ hy, if_neg h, Nat.mod_eq_of_lt (by omega)]
theorem lstN_fe (x : Nat) (hx : x < BB) : lstN (fe x) 2 = fe (x % PP) := by
  obtain ⟨c, h1, h2, h3⟩ := carN_fe (fe x) (fe_bd x) (fe_length x) x (by rw [fe_val, BB_pow, Nat.mod_eq_of_lt hx]) (by omega)
  have e : c % PP = x % PP := by rw [PP_int] at h3; rw [PP_eq]; omega
  simp only [lstN]
  rw [h2, lst_fe c h1, e]
theorem bysS_limbs (y k : Nat) (hk : k ≤ 16) : bysS (fe y) k = limbs 256 (2 * k) y := by
  induction k with
  | zero => rfl
  | succ k ih =>
    refine ext_getD (by rw [bysS_length, limbs_length]) (fun j hj => ?_)
    rw [bysS_length] at hj
    rw [limbs_getD _ _ _ _ hj]
    unfold bysS
    rw [ih (by omega), List.getD_eq_getElem?_getD, List.getElem?_append]
    have e16 : (fe y).getD k 0 = ((y / 65536 ^ k % 65536 : Nat) : Int) := limbs_getD _ _ _ _ (by omega)
    have p1 : (65536 : Nat) ^ k = 256 ^ (2 * k) := by rw [Nat.pow_mul]
    rw [limbs_length]
    by_cases h : j < 2 * k
    · rw [if_pos h, ← List.getD_eq_getElem?_getD, limbs_getD _ _ _ _ h]
    · rw [if_neg h]
      by_cases h0 : j = 2 * k
      · subst h0
        simp only [Nat.sub_self, List.getElem?_cons_zero, Option.getD_some]
        rw [e16, p1]; omega
      · have h1 : j = 2 * k + 1 := by omega
        subst h1
        simp only [Nat.add_sub_cancel_left, List.getElem?_cons_succ, List.getElem?_cons_zero, Option.getD_some]
        rw [e16, p1, Nat.pow_succ, ← Nat.div_div_eq_div_mul]; omega
/- the reference's bytes of a number: the bytes of the least one -/
theorem bys_fe (x : Nat) (hx : x < BB) : bysS (lstN (fe x) 2) 16 = limbs 256 32 (x % PP) := by
  rw [lstN_fe x hx, bysS_limbs _ 16 (by omega)]
theorem ofS_fe (l : List Int) (h : Ok 256 l) (hl : l.length = 32) : ofS l 16 = fe (bval l) := by
  have e : l = limbs 256 32 (bval l) := by
    have := limbs_lval 256 (by decide) l h
    rw [hl] at this
    exact this.symm
  have g : ∀ k, k ≤ 16 → ∀ j, j < k → (ofS l k).getD j 0 = l.getD (2 * j) 0 + 256 * l.getD (2 * j + 1) 0 := by
    intro k
    induction k with
    | zero => intro _ j h; omega
    | succ k ih =>
      intro hk j hj
      unfold ofS
      rw [getD_setI _ _ _ _ (by rw [ofS_length]; omega)]
      by_cases h : j = k
      · rw [if_pos h, h]
      · rw [if_neg h]; exact ih (by omega) j (by omega)
  refine ext_getD (by rw [ofS_length, fe_length]) (fun j hj => ?_)
  rw [ofS_length] at hj
  rw [g 16 (by omega) j hj]
  unfold fe
  rw [limbs_getD _ _ _ _ hj]
  generalize bval l = v at e
  rw [e, limbs_getD _ _ _ _ (by omega), limbs_getD _ _ _ _ (by omega)]
  have p1 : (65536 : Nat) ^ j = 256 ^ (2 * j) := by rw [Nat.pow_mul]
  rw [p1, Nat.pow_succ, ← Nat.div_div_eq_div_mul]
  generalize v / 256 ^ (2 * j) = z
  omega
def okB (l : List Int) : Bool := l.all fun x => decide (0 ≤ x) && decide (x < 256)
theorem okB_ok (l : List Int) (h : okB l = true) : Ok 256 l := by
  intro x hx
  have := List.all_eq_true.1 h x hx
  simp only [Bool.and_eq_true, decide_eq_true_eq] at this
  exact ⟨this.1, this.2⟩
def isEl (l : List Int) : Bool := decide (l.length = 32) && decide (bval l < PP)
theorem bval_lt32 (l : List Int) (h : Ok 256 l) (hl : l.length = 32) : bval l < BB := by
  have := bval_lt l h
  rw [hl] at this
  exact this
theorem num_PP : num PP = [18446744073709551597, 18446744073709551615, 18446744073709551615, 9223372036854775807] := by decide
theorem str_inj {a b : List Int} (ha : Ok 256 a) (hb : Ok 256 b) (h : (strOfNums a).toList = (strOfNums b).toList) : a = b := by
  have h1 := h
  rw [ByteArray.toList_eq, ByteArray.toList_eq, strOfNums_data, strOfNums_data] at h1
  have hlen : a.length = b.length := by simpa using congrArg List.length h1
  apply List.ext_getElem hlen
  intro i h2 h3
  have e : (a.map fun n => UInt8.ofNat n.toNat)[i]? = (b.map fun n => UInt8.ofNat n.toNat)[i]? := by rw [h1]
  simp only [List.getElem?_map, List.getElem?_eq_getElem h2, List.getElem?_eq_getElem h3, Option.map_some, Option.some.injEq] at e
  have x := ha _ (List.getElem_mem h2)
  have y := hb _ (List.getElem_mem h3)
  have e2 := congrArg UInt8.toNat e
  simp only [UInt8.toNat_ofNat'] at e2
  omega
end Go.Proofs.Ytmkemagjedihmaa.FldB
