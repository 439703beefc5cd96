/- Plain facts: the reference's remainder by the order, digit by digit and bit by bit; no condition but that the bytes are bytes and not many. -/
import Derived.Test.YtlajcahlmbjmnaaYQBase
import Derived.Test.YtlajcahlmbjmnaaYQModMath
import Derived.Test.YtlajcahlmbjmnaaYFldS
namespace Go.Proofs.Ytlajcahlmbjmnaa.YQ
open Go.RowKit Go.Proofs.Ytlajcahlmbjmnaa.Num Go.Proofs.Ytlajcahlmbjmnaa.XQ Go.Proofs.Ytlajcahlmbjmnaa.ModMath Go.Proofs.Ytlajcahlmbjmnaa.Limb Go.Proofs.Ytlajcahlmbjmnaa.FldA Go.Proofs.Ytlajcahlmbjmnaa.FldS Go.Proofs.YtlajcahlmbjmnaaW.PrintWords Go.Proofs.YtlajcahlmbjmnaaW.PrintLast Go.Proofs.YtlajcahlmbjmnaaW.PrintMore
def odg : List Int := [237, 211, 245, 92, 26, 99, 18, 88, 214, 156, 247, 162, 222, 249, 222, 20, 0, 0, 0, 0, 0, 0, 0, 0, 0, 0, 0, 0, 0, 0, 0, 16]
theorem odg_eq : odg = limbs 256 32 orderN := by decide
theorem odg_get (j : Nat) (hj : j < 32) : odg.getD j 0 = ((orderN / 256 ^ j % 256 : Nat) : Int) := by rw [odg_eq, limbs_getD _ _ _ _ hj]
theorem pos256 (j : Nat) : 0 < 256 ^ j := Nat.pow_pos (by decide)
theorem dbl_num (a b : Nat) (ha : a < 256) (hb : b < 2) : Int.tmod (wrap64 ((wrap64 (2 * (a : Int))) + (b : Int))) 256 = (((2 * a + b) % 256 : Nat) : Int) ∧ wrap64 (Int.tdiv (wrap64 ((wrap64 (2 * (a : Int))) + (b : Int))) 256) = (((2 * a + b) / 256 : Nat) : Int) := by
  rw [w64 (n := 2 * (a : Int)) (by omega) (by omega), w64 (n := 2 * (a : Int) + b) (by omega) (by omega), Int.tmod_eq_emod_of_nonneg (by omega), Int.tdiv_eq_ediv_of_nonneg (by omega), w64 (by omega) (by omega)]
  omega
theorem limbs_snoc (n v : Nat) : limbs 256 (n + 1) v = limbs 256 n v ++ [((v / 256 ^ n % 256 : Nat) : Int)] := by
  refine ext_getD (by simp [limbs_length]) (fun i hi => ?_)
  rw [limbs_length] at hi
  rw [limbs_getD _ _ _ _ hi, List.getD_eq_getElem?_getD, List.getElem?_append, limbs_length]
  by_cases h : i < n
  · rw [if_pos h, ← List.getD_eq_getElem?_getD, limbs_getD _ _ _ _ h]
  · rw [if_neg h, show i - n = 0 from by omega, show i = n from by omega]; rfl
theorem mod_l2 (x0 : List Int) (x5 x6 : Int) (v c : Nat) (hc : c < 2) (r : List Int) (hnext : Ev (fun k => spec_l05Mod.l3 k x0 odg (limbs 256 33 (2 * v + c)) x5 x6 false 32) r) (d : Nat) :
    ∀ (j : Nat) (x4 : List Int), j + d = 33 → x4.length = 33 → (∀ i, i < 33 → x4.getD i 0 = if i < j then (((2 * v + c) / 256 ^ i % 256 : Nat) : Int) else ((v / 256 ^ i % 256 : Nat) : Int)) →
    Ev (fun k => spec_l05Mod.l2 k x0 odg x4 x5 x6 ((cD v c (256 ^ j) : Nat) : Int) (j : Int)) r := by
  induction d with
  | zero =>
    intro j x4 hd hl he
    have e : x4 = limbs 256 33 (2 * v + c) := ext_getD (by rw [hl, limbs_length]) (fun i hi => by rw [he i (by omega), if_pos (by omega), limbs_getD _ _ _ _ (by omega)])
    refine Ev.step (fun k => ?_) hnext
    simp only [spec_l05Mod.l2]
    rw [if_neg (by omega), e]
  | succ d ih =>
    intro j x4 hd hl he
    have hM := pos256 j
    have hv : rd x4 (j : Int) = ((v / 256 ^ j % 256 : Nat) : Int) := by rw [rd_nat, he j (by omega), if_neg (by omega)]
    obtain ⟨n1, n2⟩ := dbl_num (v / 256 ^ j % 256) (cD v c (256 ^ j)) (by omega) (cD_le _ _ _ hM hc)
    rw [dbl1 v c _ hM] at n1
    rw [dbl2 v c _ hM, ← Nat.pow_succ] at n2
    refine Ev.step (fun k => ?_) (ih (j + 1) (x4.set j (((2 * v + c) / 256 ^ j % 256 : Nat) : Int)) (by omega) (by simpa using hl) ?_)
    · simp only [spec_l05Mod.l2]
      rw [if_pos (by omega), if_pos (by omega), if_pos (by omega), hv, n1, n2, Int.toNat_natCast, w64 (n := (j : Int) + 1) (by omega) (by omega)]
      rfl
    · intro i hi
      rw [getD_set _ _ _ _ (by omega)]
      by_cases h : i = j
      · rw [if_pos h, if_pos (by omega), h]
      · rw [if_neg h, he i hi]
        by_cases h2 : i < j
        · rw [if_pos h2, if_pos (by omega)]
        · rw [if_neg h2, if_neg (by omega)]
theorem mod_l3 (x0 : List Int) (x5 x6 : Int) (v : Nat) (r : List Int) (hnext : Ev (fun k => spec_l05Mod.j4 k x0 odg (limbs 256 33 v) x5 x6 (decide (v < orderN))) r) :
    ∀ (j : Nat), j ≤ 33 → v / 256 ^ j = orderN / 256 ^ j → Ev (fun k => spec_l05Mod.l3 k x0 odg (limbs 256 33 v) x5 x6 false ((j : Int) - 1)) r := by
  intro j
  induction j with
  | zero =>
    intro _ he
    rw [Nat.pow_zero, Nat.div_one, Nat.div_one] at he
    rw [decide_eq_false (by omega)] at hnext
    refine Ev.step (fun k => ?_) hnext
    simp only [spec_l05Mod.l3]
    rw [if_neg (by omega)]
  | succ j ih =>
    intro hj he
    have hM := pos256 j
    rw [show (((j + 1 : Nat)) : Int) - 1 = (j : Int) from by omega]
    have hv : rd (limbs 256 33 v) (j : Int) = ((v / 256 ^ j % 256 : Nat) : Int) := by rw [rd_nat, limbs_getD _ _ _ _ (by omega)]
    have hll : (limbs 256 33 v).length = 33 := limbs_length _ _ _
    rw [Nat.pow_succ] at he
    by_cases h32 : j < 32
    · have ho : wrap64 (rd odg (j : Int)) = ((orderN / 256 ^ j % 256 : Nat) : Int) := by rw [rd_nat, odg_get _ h32, w64 (by omega) (by omega)]
      have hol : odg.length = 32 := rfl
      by_cases hq : v / 256 ^ j % 256 = orderN / 256 ^ j % 256
      · refine Ev.step (fun k => ?_) (ih (by omega) (eq_digit _ _ _ he hq))
        simp only [spec_l05Mod.l3]
        rw [if_pos (by omega), if_pos (by omega), if_pos (by omega), if_pos (by omega), if_pos (by omega), hv, ho, if_pos (by omega), w64 (n := (j : Int) - 1) (by omega) (by omega)]
      · refine Ev.step (fun k => ?_) hnext
        simp only [spec_l05Mod.l3]
        rw [if_pos (by omega), if_pos (by omega), if_pos (by omega), if_pos (by omega), if_pos (by omega), hv, ho, if_neg (by omega)]
        have h := less_digit v orderN (256 ^ j) hM he hq
        rw [← h, show decide (((v / 256 ^ j % 256 : Nat) : Int) < ((orderN / 256 ^ j % 256 : Nat) : Int)) = decide (v / 256 ^ j % 256 < orderN / 256 ^ j % 256) from by rw [decide_eq_decide]; omega]
    · have ej : j = 32 := by omega
      subst ej
      have ho : orderN / 256 ^ 32 % 256 = 0 := by decide
      by_cases hq : v / 256 ^ 32 % 256 = orderN / 256 ^ 32 % 256
      · refine Ev.step (fun k => ?_) (ih (by omega) (eq_digit _ _ _ he hq))
        simp only [spec_l05Mod.l3]
        rw [if_pos (by omega), if_neg (by omega), if_pos (by omega), if_pos (by omega), hv, if_pos (by omega), w64 (n := ((32 : Nat) : Int) - 1) (by omega) (by omega)]
      · refine Ev.step (fun k => ?_) hnext
        simp only [spec_l05Mod.l3]
        rw [if_pos (by omega), if_neg (by omega), if_pos (by omega), if_pos (by omega), hv, if_neg (by omega)]
        have h := less_digit v orderN (256 ^ 32) hM he hq
        rw [← h, ho, decide_eq_false (by omega), decide_eq_false (by omega)]
theorem sub_num (a p b : Nat) (ha : a < 256) (hp : p < 256) (hb : b < 2) : wrap64 ((wrap64 ((a : Int) - (wrap64 (p : Int)))) - (b : Int)) = (a : Int) - p - b := by
  rw [w64 (n := (p : Int)) (by omega) (by omega), w64 (n := (a : Int) - p) (by omega) (by omega), w64 (by omega) (by omega)]
theorem mod_l4 (x0 : List Int) (x5 x6 : Int) (v : Nat) (hO : orderN ≤ v) (hv33 : v < 256 ^ 33) (r : List Int) (hnext : Ev (fun k => spec_l05Mod.l1 k x0 odg (limbs 256 33 (v - orderN)) x5 (wrap64 (x6 - 1))) r) (d : Nat) :
    ∀ (j : Nat) (x4 : List Int), j + d = 32 → x4.length = 33 → (∀ i, i < 33 → x4.getD i 0 = if i < j then (((v - orderN) / 256 ^ i % 256 : Nat) : Int) else ((v / 256 ^ i % 256 : Nat) : Int)) →
    Ev (fun k => spec_l05Mod.l4 k x0 odg x4 x5 x6 ((bo v orderN (256 ^ j) : Nat) : Int) (j : Int)) r := by
  induction d with
  | zero =>
    intro j x4 hd hl he
    obtain rfl : j = 32 := by omega
    have hv : rd x4 32 = ((v / 256 ^ 32 % 256 : Nat) : Int) := by
      rw [show (32 : Int) = ((32 : Nat) : Int) from rfl, rd_nat, he 32 (by omega), if_neg (by omega)]
    have hx : ((v / 256 ^ 32 % 256 : Nat) : Int) - ((bo v orderN (256 ^ 32) : Nat) : Int) = (((v - orderN) / 256 ^ 32 % 256 : Nat) : Int) ∧ 0 ≤ ((v / 256 ^ 32 % 256 : Nat) : Int) - ((bo v orderN (256 ^ 32) : Nat) : Int) ∧ ((v / 256 ^ 32 % 256 : Nat) : Int) - ((bo v orderN (256 ^ 32) : Nat) : Int) < 256 := by
      have hb := bo_le v orderN (256 ^ 32)
      have h0 := sub0 v orderN (256 ^ 32) (pos256 32) hO
      have ho : orderN / 256 ^ 32 = 0 := by decide
      have hlt : v / 256 ^ 32 < 256 := by rw [Nat.div_lt_iff_lt_mul (pos256 32), ← Nat.pow_succ']; exact hv33
      rw [ho] at h0
      clear hnext he hv ho hO hv33
      generalize bo v orderN (256 ^ 32) = b at *
      generalize v / 256 ^ 32 = q at *
      generalize (v - orderN) / 256 ^ 32 = t at *
      omega
    obtain ⟨x1, x2, x3⟩ := hx
    refine Ev.step (fun k => ?_) hnext
    simp only [spec_l05Mod.l4]
    clear hnext hO hv33
    rw [if_neg (by clear he hv x1 x2 x3; omega), if_pos (by clear he hv x1 x2 x3; omega), hv]
    have e : x4.set (32 : Int).toNat (wrap64 (((v / 256 ^ 32 % 256 : Nat) : Int) - ((bo v orderN (256 ^ 32) : Nat) : Int))) = limbs 256 33 (v - orderN) := by
      rw [w64 (Int.le_trans (by decide) x2) (Int.lt_trans x3 (by decide)), x1]
      clear x1 x2 x3 hv
      refine ext_getD (by simp [hl, limbs_length]) (fun i hi => ?_)
      rw [List.length_set, hl] at hi
      rw [limbs_getD _ _ _ _ hi, show (32 : Int).toNat = 32 from rfl, getD_set _ _ _ _ (by omega)]
      by_cases h : i = 32
      · rw [if_pos h, h]
      · rw [if_neg h, he i hi, if_pos (by omega)]
    rw [e]
  | succ d ih =>
    intro j x4 hd hl he
    have hol : odg.length = 32 := rfl
    have hv : rd x4 (j : Int) = ((v / 256 ^ j % 256 : Nat) : Int) := by rw [rd_nat, he j (by omega), if_neg (by omega)]
    have ho : rd odg (j : Int) = ((orderN / 256 ^ j % 256 : Nat) : Int) := by rw [rd_nat, odg_get _ (by omega)]
    have hset : ∀ y : Int, y = (((v - orderN) / 256 ^ j % 256 : Nat) : Int) → ∀ i, i < 33 → (x4.set j y).getD i 0 = if i < j + 1 then (((v - orderN) / 256 ^ i % 256 : Nat) : Int) else ((v / 256 ^ i % 256 : Nat) : Int) := by
      intro y hy i hi
      rw [getD_set _ _ _ _ (by omega)]
      by_cases h : i = j
      · rw [if_pos h, if_pos (by omega), h, hy]
      · rw [if_neg h, he i hi]
        by_cases h2 : i < j
        · rw [if_pos h2, if_pos (by omega)]
        · rw [if_neg h2, if_neg (by omega)]
    have hn := fun y hy => ih (j + 1) (x4.set j y) (by omega) (by simpa using hl) (hset y hy)
    have hM := pos256 j
    have hd1 := sub1 v orderN (256 ^ j) hM hO
    have hd2 := bo_next v orderN (256 ^ j) hM
    rw [← Nat.pow_succ] at hd2
    rw [hd2] at hn
    clear hset hd2 ih he
    have hb := bo_le v orderN (256 ^ j)
    have ha := Nat.mod_lt (v / 256 ^ j) (show 0 < 256 by decide)
    have hp := Nat.mod_lt (orderN / 256 ^ j) (show 0 < 256 by decide)
    have hs := sub_num (v / 256 ^ j % 256) (orderN / 256 ^ j % 256) (bo v orderN (256 ^ j)) ha hp hb
    clear hM hO hv33
    generalize bo v orderN (256 ^ j) = b at *
    generalize v / 256 ^ j % 256 = a at *
    generalize orderN / 256 ^ j % 256 = p at *
    by_cases hlt : a < p + b
    · rw [if_pos hlt] at hd1 hn
      refine Ev.step (fun k => ?_) (hn ((a : Int) - p - b + 256) (by rw [hd1]; clear hd1 hn hnext hv ho hs; omega))
      clear hd1 hn
      simp only [spec_l05Mod.l4]
      rw [if_pos (by omega), if_pos (by omega), if_pos (by omega), if_pos (by omega), hv, ho, hs, if_pos (by omega), Int.toNat_natCast, w64 (n := (a : Int) - p - b + 256) (by omega) (by omega), w64 (n := (j : Int) + 1) (by omega) (by omega)]
      rfl
    · rw [if_neg hlt] at hd1 hn
      refine Ev.step (fun k => ?_) (hn ((a : Int) - p - b) (by rw [hd1]; clear hd1 hn hnext hv ho hs; omega))
      clear hd1 hn
      simp only [spec_l05Mod.l4]
      rw [if_pos (by omega), if_pos (by omega), if_pos (by omega), if_pos (by omega), hv, ho, hs, if_neg (by omega), Int.toNat_natCast, w64 (n := (j : Int) + 1) (by omega) (by omega)]
      rfl
theorem and1 (n : Int) : Go.bits .and .i64 n 1 = n % 2 := by
  show IntKind.i64.wrap ((BitVec.ofInt 64 n &&& BitVec.ofInt 64 1).toNat : Int) = _
  rw [BitVec.toNat_and, show (BitVec.ofInt 64 1).toNat = 1 from by decide, Nat.and_one_is_mod, BitVec.toNat_ofInt]
  simp [IntKind.wrap, IntKind.bits, IntKind.signed]
  omega
theorem the_bit (l : List Int) (ho : Ok 256 l) (i b : Nat) (hi : i < l.length) (hb : b < 8) : Go.bits .and .i64 (shr .i64 (wrap64 (rd l (i : Int))) (IntKind.u64.wrap (b : Int))) 1 = ((bval l / 2 ^ (8 * i + b) % 2 : Nat) : Int) := by
  have e : l = limbs 256 l.length (bval l) := (limbs_lval 256 (by decide) l ho).symm
  have hr : rd l (i : Int) = ((bval l / 256 ^ i % 256 : Nat) : Int) := by
    rw [rd_nat]
    have := limbs_getD 256 l.length (bval l) i hi
    rw [← e] at this
    exact this
  rw [and1, hr, w64 (by omega) (by omega), IntKind.wrap_u64, shr, show ((b : Int) % 18446744073709551616).toNat = b from by omega, show min b IntKind.i64.bits = b from by show min b 64 = b; omega]
  rw [Nat.pow_add, ← Nat.div_div_eq_div_mul, ← p256_pow]
  generalize bval l / 256 ^ i = z
  have : b = 0 ∨ b = 1 ∨ b = 2 ∨ b = 3 ∨ b = 4 ∨ b = 5 ∨ b = 6 ∨ b = 7 := by omega
  rcases this with rfl | rfl | rfl | rfl | rfl | rfl | rfl | rfl <;> simp only [Nat.reducePow, Int.reducePow] <;> omega
theorem mod_l1 (l : List Int) (ho : Ok 256 l) (hl : l.length < 1099511627776) (i : Nat) (hi : i < l.length) (r : List Int) (hnext : Ev (fun k => spec_l05Mod.l0 k l odg (limbs 256 33 (bval l / 2 ^ (8 * i) % orderN)) ((i : Int) - 1)) r) :
    ∀ m, m ≤ 8 → Ev (fun k => spec_l05Mod.l1 k l odg (limbs 256 33 (bval l / 2 ^ (8 * i + m) % orderN)) (i : Int) ((m : Int) - 1)) r := by
  intro m
  induction m with
  | zero =>
    intro _
    refine Ev.step (fun k => ?_) hnext
    simp only [spec_l05Mod.l1]
    rw [if_neg (by omega), w64 (by omega) (by omega)]
    rfl
  | succ b ih =>
    intro hb
    have ih := ih (by omega)
    have hbit := the_bit l ho i b hi (by omega)
    have hRM := round_mod (bval l) (8 * i + b)
    rw [show 8 * i + b + 1 = 8 * i + (b + 1) from by omega] at hRM
    have hvo : bval l / 2 ^ (8 * i + (b + 1)) % orderN < orderN := Nat.mod_lt _ (by decide)
    have hc2 : bval l / 2 ^ (8 * i + b) % 2 < 2 := Nat.mod_lt _ (by omega)
    rw [← hRM] at ih
    generalize bval l / 2 ^ (8 * i + (b + 1)) % orderN = v at *
    generalize bval l / 2 ^ (8 * i + b) % 2 = c at *
    obtain ⟨y, hy⟩ : ∃ y, y = 2 * v + c := ⟨_, rfl⟩
    have hO33 : 2 * orderN + 2 < 256 ^ 33 := by decide
    have hj4 : Ev (fun k => spec_l05Mod.j4 k l odg (limbs 256 33 y) (i : Int) (b : Int) (decide (y < orderN))) r := by
      by_cases hyo : y < orderN
      · rw [decide_eq_true hyo]
        rw [← hy, Nat.mod_eq_of_lt hyo] at ih
        refine Ev.step (fun k => ?_) ih
        simp only [spec_l05Mod.j4]
        rw [if_pos trivial, w64 (by omega) (by omega)]
      · rw [decide_eq_false hyo]
        have e : y % orderN = y - orderN := by rw [Nat.mod_eq_sub_mod (by omega), Nat.mod_eq_of_lt (by omega)]
        rw [← hy, e] at ih
        have := mod_l4 l (i : Int) (b : Int) y (by omega) (by omega) r (by rw [w64 (by omega) (by omega)]; exact ih) 32 0 (limbs 256 33 y) (by omega) (limbs_length _ _ _) (fun i hi => by rw [if_neg (by omega), limbs_getD _ _ _ _ hi])
        rw [Nat.pow_zero, bo_one] at this
        refine Ev.step (fun k => ?_) this
        simp only [spec_l05Mod.j4]
        rw [if_neg (by simp)]
        rfl
    have h33 : y / 256 ^ 33 = orderN / 256 ^ 33 := by rw [Nat.div_eq_of_lt (by omega), Nat.div_eq_of_lt (by omega)]
    have hl3 := mod_l3 l (i : Int) (b : Int) y r hj4 33 (Nat.le_refl _) h33
    rw [hy] at hl3
    have hl2 := mod_l2 l (i : Int) (b : Int) v c hc2 r hl3 33 0 (limbs 256 33 v) (by omega) (limbs_length _ _ _) (fun i hi => by rw [if_neg (by omega), limbs_getD _ _ _ _ hi])
    rw [Nat.pow_zero, cD_one _ _ hc2] at hl2
    refine Ev.step (fun k => ?_) hl2
    simp only [spec_l05Mod.l1]
    rw [show (((b + 1 : Nat)) : Int) - 1 = (b : Int) from by omega, if_pos (by omega), if_pos (by omega), if_pos (by omega), if_pos (by rw [IntKind.wrap_u64]; omega), hbit]
    rfl
theorem mod_l0 (l : List Int) (ho : Ok 256 l) (hl : l.length < 1099511627776) (r : List Int) (hnext : Ev (fun k => spec_l05Mod.l5 k (limbs 256 33 (bval l % orderN)) [] 0) r) :
    ∀ i, i ≤ l.length → Ev (fun k => spec_l05Mod.l0 k l odg (limbs 256 33 (bval l / 2 ^ (8 * i) % orderN)) ((i : Int) - 1)) r := by
  intro i
  induction i with
  | zero =>
    intro _
    rw [Nat.mul_zero, Nat.pow_zero, Nat.div_one]
    refine Ev.step (fun k => ?_) hnext
    simp only [spec_l05Mod.l0]
    rw [if_neg (by omega)]
  | succ i ih =>
    intro hi
    have h := mod_l1 l ho hl i (by omega) r (ih (by omega)) 8 (Nat.le_refl _)
    rw [show (((8 : Nat)) : Int) - 1 = 7 from rfl, show 8 * i + 8 = 8 * (i + 1) from by omega] at h
    refine Ev.step (fun k => ?_) h
    simp only [spec_l05Mod.l0]
    rw [show (((i + 1 : Nat)) : Int) - 1 = (i : Int) from by omega, if_pos (by omega)]
theorem mod_l5 (v : Nat) (d : Nat) : ∀ j, j + d = 32 → Ev (fun k => spec_l05Mod.l5 k (limbs 256 33 v) (limbs 256 j v) (j : Int)) (limbs 256 32 v) := by
  induction d with
  | zero =>
    intro j hd
    obtain rfl : j = 32 := by omega
    refine Ev.step (f := fun _ => some (limbs 256 32 v)) (fun k => ?_) (Ev.now _)
    simp only [spec_l05Mod.l5]
    rw [if_neg (by omega)]
  | succ d ih =>
    intro j hd
    have hll : (limbs 256 33 v).length = 33 := limbs_length _ _ _
    refine Ev.step (fun k => ?_) (ih (j + 1) (by omega))
    simp only [spec_l05Mod.l5]
    rw [if_pos (by omega), if_pos (by omega), if_pos (by omega), if_pos (by rw [limbs_length]; omega), rd_nat, limbs_getD _ _ _ _ (by omega), limbs_snoc j v, w64 (n := (j : Int) + 1) (by omega) (by omega), show ((v / 256 ^ j % 256 : Nat) : Int) % 256 = ((v / 256 ^ j % 256 : Nat) : Int) from by omega]
    rfl
theorem l05Mod (l : List Int) (ho : Ok 256 l) (hl : l.length < 1099511627776) : Ev (fun k => spec_l05Mod.f k l) (limbs 256 32 (bval l % orderN)) := by
  unfold spec_l05Mod.f
  have h := mod_l0 l ho hl _ (mod_l5 (bval l % orderN) 32 0 (by omega)) l.length (Nat.le_refl _)
  have e0 : bval l / 2 ^ (8 * l.length) % orderN = 0 := by
    rw [← p256_pow, Nat.div_eq_of_lt (bval_lt l ho)]
    decide
  rw [e0, show limbs 256 33 0 = List.replicate 33 0 from by decide] at h
  simp only [spec_l05Order.f, Option.bind_some, if_pos (show 33 ≤ 35184372088832 by decide)]
  rw [w64 (by omega) (by omega)]
  exact h
end Go.Proofs.Ytlajcahlmbjmnaa.YQ
