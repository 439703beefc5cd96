/- A square has a root, even, whose square it is; where there is none the number is no square: the law's function answers true for all codes; no condition beyond the statement's own. -/
import Derived.Test.YtijeackkgcnbgaaYMathPrime
import Derived.Test.YtijeackkgcnbgaaYFldW
import Derived.Test.YtijeackkgcnbgaaYFldRoot
import Derived.Test.YtijeackkgcnbgaaXHx
import Derived.Test.YtijeackkgcnbgaaYBits
namespace Go.Proofs.Ytijeackkgcnbgaa.Prime
def PP : Nat := 57896044618658097711785492504343953926634992332820282019728792003956564819949
def Q1 : Nat := 74058212732561358302231226437062788676166966415465897661863160754340907
def Q2 : Nat := 75445702479781427272750846543864801
def Q3 : Nat := 1919519569386763
theorem pr_127 : Pr 127 := prime_tri 11 (by decide) (by decide) (by decide +kernel)
theorem pr_8574133 : Pr 8574133 := prime_tri 2930 (by decide) (by decide) (by decide +kernel)
theorem pr_75707 : Pr 75707 := prime_tri 300 (by decide) (by decide) (by decide +kernel)
theorem pr_1923133 : Pr 1923133 := prime_tri 1400 (by decide) (by decide) (by decide +kernel)
theorem ne_of {a b : Nat} (h : (a == b) = false) : a ≠ b := fun e => by subst e; simp at h
theorem pr_ne {p q : Nat} (hp : Pr p) (hq : Pr q) (h : (q == p) = false) : Nat.Coprime p q := hp.coprime (fun hd => by
  rcases hq.2 p hd with e | e
  · have := hp.1; omega
  · subst e; simp at h)
theorem two {n p q : Nat} (a k : Nat) (hn : 1 < n) (hp : Pr p) (hq : Pr q) (hpq : (q == p) = false) (hF : n < (p * q + 1) * (p * q + 1)) (hk : n < 2 ^ k) (d1 : (n - 1) % p = 0) (d2 : (n - 1) % q = 0)
    (h1 : pm k a (n - 1) n = 1) (g1 : Nat.gcd (pm k a ((n - 1) / p) n + (n - 1)) n = 1) (g2 : Nat.gcd (pm k a ((n - 1) / q) n + (n - 1)) n = 1) : Pr n := by
  have lt : ∀ x, (n - 1) / x < 2 ^ k := fun x => Nat.lt_of_le_of_lt (Nat.div_le_self _ _) (by omega)
  rw [pm_eq n k a _ (by omega)] at h1
  rw [pm_eq n k a _ (lt _)] at g1 g2
  exact prime_of hn hF (fun r hr hrn => (pr_ne hp hq hpq).mul_dvd_of_dvd_of_dvd (pock hn hp (Nat.dvd_of_mod_eq_zero d1) h1 g1 hr hrn) (pock hn hq (Nat.dvd_of_mod_eq_zero d2) h1 g2 hr hrn))
theorem one {n p : Nat} (a k : Nat) (hn : 1 < n) (hp : Pr p) (hF : n < (p + 1) * (p + 1)) (hk : n < 2 ^ k) (d1 : (n - 1) % p = 0)
    (h1 : pm k a (n - 1) n = 1) (g1 : Nat.gcd (pm k a ((n - 1) / p) n + (n - 1)) n = 1) : Pr n := by
  have lt : ∀ x, (n - 1) / x < 2 ^ k := fun x => Nat.lt_of_le_of_lt (Nat.div_le_self _ _) (by omega)
  rw [pm_eq n k a _ (by omega)] at h1
  rw [pm_eq n k a _ (lt _)] at g1
  exact prime_of hn hF (fun r hr hrn => pock hn hp (Nat.dvd_of_mod_eq_zero d1) h1 g1 hr hrn)
theorem pr_Q3 : Pr Q3 := two 2 51 (by decide +kernel) pr_8574133 pr_127 (by decide +kernel) (by decide +kernel) (by decide +kernel) (by decide +kernel) (by decide +kernel) (by decide +kernel) (by decide +kernel) (by decide +kernel)
theorem pr_Q2 : Pr Q2 := two 2 116 (by decide +kernel) pr_Q3 pr_75707 (by decide +kernel) (by decide +kernel) (by decide +kernel) (by decide +kernel) (by decide +kernel) (by decide +kernel) (by decide +kernel) (by decide +kernel)
theorem pr_Q1 : Pr Q1 := two 2 236 (by decide +kernel) pr_Q2 pr_1923133 (by decide +kernel) (by decide +kernel) (by decide +kernel) (by decide +kernel) (by decide +kernel) (by decide +kernel) (by decide +kernel) (by decide +kernel)
theorem pr_PP : Pr PP := one 2 255 (by decide +kernel) pr_Q1 (by decide +kernel) (by decide +kernel) (by decide +kernel) (by decide +kernel) (by decide +kernel)
end Go.Proofs.Ytijeackkgcnbgaa.Prime

namespace Go.Proofs.Ytijeackkgcnbgaa.FldLaw
open Go.RowKit Go.Proofs.Ytijeackkgcnbgaa.Limb Go.Proofs.Ytijeackkgcnbgaa.FldA Go.Proofs.Ytijeackkgcnbgaa.FldB Go.Proofs.Ytijeackkgcnbgaa.FldW Go.Proofs.Ytijeackkgcnbgaa.FldP
set_option linter.unusedVariables false

/-- the bytes of an element -/
def el (x : Nat) : List Int := limbs 256 32 x
theorem el_length (x : Nat) : (el x).length = 32 := limbs_length _ _ _
theorem el_zero : el 0 = List.replicate 32 0 := by decide
theorem el_one : el 1 = [1] ++ List.replicate 31 0 := by decide
theorem mod_lt (x : Nat) : x % PP < PP := Nat.mod_lt _ PP_pos
theorem add_sub (a b : Nat) (ha : a < PP) (hb : b < PP) : ((a + b) % PP + PP - b) % PP = a := by
  rw [PP_eq] at *
  omega
theorem square (a b : Nat) : (a + b) % PP * ((a + b) % PP) % PP = ((a * a % PP + b * b % PP) % PP + (a * b % PP + a * b % PP) % PP) % PP := by
  rw [← Nat.mul_mod]
  simp only [Nat.mod_add_mod, Nat.add_mod_mod]
  congr 1
  rw [Nat.add_mul, Nat.mul_add, Nat.mul_add, Nat.mul_comm b a]
  omega
theorem prime : Prime.Pr PP := Prime.pr_PP
theorem fermat (a : Nat) (h0 : a ≠ 0) (ha : a < PP) : a ^ (PP - 1) % PP = 1 := Prime.fermat prime (fun h => by
  have := Nat.le_of_dvd (Nat.pos_of_ne_zero h0) h
  omega)
theorem inverse (a : Nat) (h0 : a ≠ 0) (ha : a < PP) : a * (a ^ (PP - 2) % PP) % PP = 1 := by
  have h := fermat a h0 ha
  obtain ⟨n, hn⟩ : ∃ n, n = PP - 2 := ⟨_, rfl⟩
  have h2 : PP - 1 = n + 1 := by rw [hn]; decide
  rw [h2, Nat.pow_succ'] at h
  rw [← hn, Nat.mul_mod, Nat.mod_mod, ← Nat.mul_mod]
  exact h
end Go.Proofs.Ytijeackkgcnbgaa.FldLaw

namespace Go.Proofs.Ytijeackkgcnbgaa.FldSqrt
open Go.RowKit Go.Proofs.Ytijeackkgcnbgaa.Limb Go.Proofs.Ytijeackkgcnbgaa.FldA Go.Proofs.Ytijeackkgcnbgaa.FldB Go.Proofs.Ytijeackkgcnbgaa.FldW Go.Proofs.Ytijeackkgcnbgaa.FldP Go.Proofs.Ytijeackkgcnbgaa.FldLaw Go.Proofs.Ytijeackkgcnbgaa.FldRoot
set_option linter.unusedVariables false

theorem sq_half (r a : Nat) (hr : r < PP) (ha : a ≤ r) (h : r * r % PP = a * a % PP) : r = a ∨ r + a = PP := by
  have hd : PP ∣ (r - a) * (r + a) := by
    have e : (r - a) * (r + a) = r * r - a * a := by
      obtain ⟨d, rfl⟩ : ∃ d, r = a + d := ⟨r - a, by omega⟩
      have e1 : (a + d) * (a + d) = a * a + d * (a + d + a) := by
        simp only [Nat.mul_add, Nat.add_mul, Nat.mul_comm d a]
        omega
      rw [Nat.add_sub_cancel_left, e1, Nat.add_sub_cancel_left]
    rw [e]
    exact Nat.dvd_of_mod_eq_zero (Nat.sub_mod_eq_zero_of_mod_eq h)
  rcases prime.dvd_mul hd with h1 | h1
  · left
    rcases Nat.eq_zero_or_pos (r - a) with h2 | h2
    · omega
    · have := Nat.le_of_dvd h2 h1; omega
  · obtain ⟨k, hk⟩ := h1
    have hP := PP_pos
    have : k = 0 ∨ k = 1 := by
      rcases Nat.lt_or_ge k 2 with h3 | h3
      · omega
      · have := Nat.mul_le_mul_left PP h3; omega
    rcases this with rfl | rfl
    · left; omega
    · right; omega
theorem sq_cases (r a : Nat) (hr : r < PP) (ha : a < PP) (h : r * r % PP = a * a % PP) : r = a ∨ r + a = PP := by
  rcases Nat.le_total a r with h1 | h1
  · exact sq_half r a hr h1 h
  · rcases sq_half a r ha h1 h.symm with h2 | h2
    · exact Or.inl h2.symm
    · right; omega
theorem half (a : Nat) (h0 : a ≠ 0) (ha : a < PP) (n : Nat) (hn : n + n = PP - 1) : a ^ n % PP = 1 ∨ a ^ n % PP = PP - 1 := by
  have e := fermat a h0 ha
  rw [← hn, Nat.pow_add, Nat.mul_mod] at e
  have h1 := mod_lt (a ^ n)
  generalize a ^ n % PP = h at *
  rcases sq_cases h 1 h1 (by decide) (by rw [e]; decide) with h2 | h2
  · exact Or.inl h2
  · right; omega
theorem im_sq : imN * imN % PP = PP - 1 := by decide
theorem neg_neg : (PP - 1) * (PP - 1) % PP = 1 := by decide
theorem root_sq (a : Nat) (h0 : a ≠ 0) (ha : a < PP) : rt1 (a * a % PP) * rt1 (a * a % PP) % PP = a * a % PP := by
  obtain ⟨n, hn⟩ : ∃ n, n = (PP - 1) / 2 := ⟨_, rfl⟩
  have hn2 : n + n = PP - 1 := by rw [hn]; decide
  have hn4 : eR + eR + (eR + eR) = n + 2 := by rw [hn]; decide
  have hh := half a h0 ha n hn2
  have hs : rt0 (a * a % PP) * rt0 (a * a % PP) % PP = a ^ n % PP * (a * a % PP) % PP := by
    unfold rt0
    rw [← Nat.pow_mod, ← Nat.mul_mod, ← Nat.mul_mod, Nat.mul_pow, ← Nat.pow_add, ← Nat.pow_add, hn4, Nat.pow_add, Nat.pow_two]
  generalize a ^ n % PP = h at *
  have hsl := mod_lt (a * a)
  generalize a * a % PP = s at *
  unfold rt1
  generalize rt0 s = x at *
  by_cases hx : x * x % PP = s
  · rw [if_pos hx]; exact hx
  · rw [if_neg hx]
    have hP : h = PP - 1 := by
      rcases hh with h1 | h1
      · exfalso
        rw [h1, Nat.one_mul, Nat.mod_eq_of_lt hsl] at hs
        exact hx hs
      · exact h1
    have e : x * imN * (x * imN) = x * x * (imN * imN) := by
      rw [Nat.mul_assoc, Nat.mul_comm imN (x * imN), Nat.mul_assoc, ← Nat.mul_assoc x x]
    rw [← Nat.mul_mod, e, Nat.mul_mod, hs, im_sq, hP]
    rw [Nat.mul_mod, Nat.mod_mod, ← Nat.mul_mod, Nat.mul_comm ((PP - 1) * s), ← Nat.mul_assoc, Nat.mul_mod, neg_neg, Nat.mod_eq_of_lt hsl, Nat.one_mul, Nat.mod_eq_of_lt hsl]
theorem rt0_exp : ∃ n, 0 < n ∧ ∀ a, rt0 a = a ^ n % PP := ⟨eR, by decide, fun a => rfl⟩
theorem rt_zero : rt1 0 = 0 := by
  have h : rt0 0 = 0 := by
    obtain ⟨n, hn, hr⟩ := rt0_exp
    rw [hr 0, Nat.zero_pow hn, Nat.zero_mod]
  unfold rt1
  rw [h]
  rfl
theorem rt1_sq (a : Nat) (ha : a < PP) : rt1 (a * a % PP) * rt1 (a * a % PP) % PP = a * a % PP := by
  by_cases h0 : a = 0
  · subst h0
    rw [Nat.mul_zero, Nat.zero_mod, rt_zero, Nat.mul_zero, Nat.zero_mod]
  · exact root_sq a h0 ha
theorem PP_odd : PP % 2 = 1 := by decide
theorem rtV_even (s : Nat) : rtV s % 2 = 0 := by
  have h1 := rt1_lt s
  have hp := PP_odd
  unfold rtV
  split
  · rename_i h
    rw [Nat.mod_eq_of_lt (show PP - rt1 s < PP by omega)]
    omega
  · omega
theorem rtV_sq (s : Nat) : rtV s * rtV s % PP = rt1 s * rt1 s % PP := by
  have h1 := rt1_lt s
  unfold rtV
  split
  · rename_i h
    generalize rt1 s = z at *
    rw [Nat.mod_eq_of_lt (show PP - z < PP by omega)]
    obtain ⟨d, hd⟩ : ∃ d, d = PP - z := ⟨_, rfl⟩
    have hz : z = PP - d := by omega
    rw [← hd]
    have hPd : PP = z + d := by omega
    have e : d * d + PP * z = z * z + PP * d := by
      rw [hPd, Nat.add_mul, Nat.add_mul, Nat.mul_comm d z]; omega
    have e2 := congrArg (· % PP) e
    simp only [Nat.add_mul_mod_self_left] at e2
    exact e2
  · rfl
theorem rtOk_sq (a : Nat) (ha : a < PP) : rtOk (a * a % PP) = true := by
  unfold rtOk
  exact decide_eq_true (rt1_sq a ha)
theorem rtV_root (a : Nat) (ha : a < PP) : rtV (a * a % PP) * rtV (a * a % PP) % PP = a * a % PP := by
  rw [rtV_sq, rt1_sq a ha]
theorem rtV_cases (a : Nat) (ha : a < PP) : rtV (a * a % PP) = a ∨ rtV (a * a % PP) = (0 + PP - a) % PP := by
  rcases sq_cases _ a (rtV_lt _) ha (rtV_root a ha) with h | h
  · exact Or.inl h
  · right
    have := rtV_lt (a * a % PP)
    generalize rtV (a * a % PP) = r at *
    have hP := PP_pos
    rw [Nat.zero_add, Nat.mod_eq_of_lt (show PP - a < PP by omega)]
    omega
end Go.Proofs.Ytijeackkgcnbgaa.FldSqrt

namespace Go.Proofs.Ytijeackkgcnbgaa.YH
open Go.RowKit Go.Proofs.Ytijeackkgcnbgaa.Num Go.Proofs.Ytijeackkgcnbgaa.XH Go.Proofs.YtijeackkgcnbgaaW.PrintWords Go.Proofs.YtijeackkgcnbgaaW.PrintLast

theorem Ev.eq {α : Type} {g : Nat → Option α} {r r' : α} (h : Ev g r) (e : r = r') : Ev g r' := e ▸ h

theorem rd_nat (l : List Int) (i : Nat) : rd l (i : Int) = l.getD i 0 := by simp [rd]

/- two lists alike at each place -/
theorem ext_getD {l m : List Int} (h : l.length = m.length) (e : ∀ i, i < l.length → l.getD i 0 = m.getD i 0) : l = m := by
  apply List.ext_getElem h
  intro i h1 h2
  have := e i h1
  simpa [List.getD_eq_getElem?_getD, List.getElem?_eq_getElem h1, List.getElem?_eq_getElem h2] using this

theorem getD_set (l : List Int) (i j : Nat) (v : Int) (hi : i < l.length) : (l.set i v).getD j 0 = if j = i then v else l.getD j 0 := by
  simp only [List.getD_eq_getElem?_getD, List.getElem?_set]
  by_cases h : j = i
  · subst h; simp [hi]
  · rw [if_neg (fun e => h e.symm), if_neg h]

end Go.Proofs.Ytijeackkgcnbgaa.YH

namespace Go.Proofs.Ytijeackkgcnbgaa.Pure
open Go.RowKit Go.Proofs.Ytijeackkgcnbgaa.Limb Go.Proofs.Ytijeackkgcnbgaa.FldA Go.Proofs.Ytijeackkgcnbgaa.FldB Go.Proofs.Ytijeackkgcnbgaa.FldW Go.Proofs.Ytijeackkgcnbgaa.FldLaw Go.Proofs.Ytijeackkgcnbgaa.FldRoot Go.Proofs.Ytijeackkgcnbgaa.FldSqrt Go.Proofs.Ytijeackkgcnbgaa.StSrc Go.Proofs.Ytijeackkgcnbgaa.Num Go.Proofs.Ytijeackkgcnbgaa.YH Go.Proofs.Ytijeackkgcnbgaa.XH Go.Proofs.YtijeackkgcnbgaaW.PrintWords Go.Proofs.YtijeackkgcnbgaaW.PrintLast

theorem wf_u8r {x : Int} (h : (Lit.int .u8 x).wf = true) : 0 ≤ x ∧ x < 256 := by
  simp [Lit.wf, IntKind.min, IntKind.max, IntKind.signed, IntKind.bits] at h
  omega
theorem okE_twoR (a b : Nat) (ha : a < PP) (hb : b < PP) : (okE (el a) && okE (el b)) = true := by
  rw [show okE (el a) = true from okE_limbs a ha, show okE (el b) = true from okE_limbs b hb]; rfl
theorem mulR (a b : Nat) (ha : a < PP) (hb : b < PP) : impl_FieldMul.f (el a) (el b) = some (el (a * b % PP), 0) := by
  unfold impl_FieldMul.f
  rw [if_pos (okE_twoR a b ha hb), show bval (el a) = a from bval_limbs a ha, show bval (el b) = b from bval_limbs b hb]; rfl
theorem subR (a b : Nat) (ha : a < PP) (hb : b < PP) : impl_FieldSub.f (el a) (el b) = some (el ((a + PP - b) % PP), 0) := by
  unfold impl_FieldSub.f
  rw [if_pos (okE_twoR a b ha hb), show bval (el a) = a from bval_limbs a ha, show bval (el b) = b from bval_limbs b hb]; rfl
theorem rootR (a : Nat) (ha : a < PP) : impl_FieldRoot.f (el a) = if rtOk a then some (el (rtV a), 0) else some ([], 5) := by
  unfold impl_FieldRoot.f
  rw [if_pos (show okE (el a) = true from okE_limbs a ha), show bval (el a) = a from bval_limbs a ha]; rfl
theorem rootS (a : Nat) (ha : a < PP) : spec_FieldRoot.f (el a) = if rtOk a then some (el (rtV a), 0) else some ([], 5) := by
  unfold spec_FieldRoot.f
  rw [if_pos (show okE (el a) = true from okE_limbs a ha), show bval (el a) = a from bval_limbs a ha]; rfl
theorem srcR (l : List Int) (ho : okB l = true) (hl : l.length < 1099511627776) : spec_ElementOf.f l = some (el (elN l)) := by
  unfold spec_ElementOf.f
  rw [ho, decide_eq_true hl]; rfl
theorem FnRoots_j1' (x : List Int) (r : List Int × Int) (h1 : impl_FieldRoot.f x = some r) (h2 : spec_FieldRoot.f x = some r) : Ev (fun k => laws_FnRoots.j1 k x false) true := by
  refine Ev.step (f := fun _ => some true) (fun k => ?_) (Ev.now _)
  simp only [laws_FnRoots.j1, h1, h2, Bool.false_eq_true, if_false, Option.bind_some, if_true, beq_self_eq_true]
theorem FnRoots_j1'' (x : List Int) (o : Bool) (r s : List Int × Int) (h1 : impl_FieldRoot.f x = if o = true then some r else some s) (h2 : spec_FieldRoot.f x = if o = true then some r else some s) : Ev (fun k => laws_FnRoots.j1 k x false) true := by
  cases o with
  | true => exact FnRoots_j1' x r (h1.trans (if_pos rfl)) (h2.trans (if_pos rfl))
  | false => exact FnRoots_j1' x s (h1.trans (if_neg (by decide))) (h2.trans (if_neg (by decide)))
theorem FnRoots_j1 (a : Nat) (ha : a < PP) : Ev (fun k => laws_FnRoots.j1 k (el a) false) true :=
  FnRoots_j1'' (el a) (rtOk a) (el (rtV a), 0) ([], 5) (rootR a ha) (rootS a ha)
theorem FnRoots_go (l x sq r mi : List Int) (hl : ¬ (l.length : Int) > 1048576) (hs : spec_ElementOf.f l = some x) (m1 : impl_FieldMul.f x x = some (sq, 0)) (r1 : impl_FieldRoot.f sq = some (r, 0)) (m2 : impl_FieldMul.f r r = some (sq, 0)) (hlen : (r.length : Int) = 32)
    (htm : (Int.tmod (rd r 0) 2 == 1) = false) (h1 : impl_FieldSub.f (List.replicate 32 0) x = some (mi, 0)) (hc : r = x ∨ r = mi) (hj : Ev (fun k => laws_FnRoots.j1 k x false) true) : Ev (fun k => laws_FnRoots.f k l) true := by
  unfold laws_FnRoots.f
  simp only [if_neg hl, hs, m1, r1, m2, Option.bind_some, if_true, hlen, htm]
  refine Ev.congr (f := fun k => laws_FnRoots.j0 k x r false) (fun k => ?_) ?_
  · rw [if_pos (show (0 : Int) < 32 by decide)]
  · refine Ev.step (f := fun k => laws_FnRoots.j1 k x false) (fun k => ?_) hj
    simp only [laws_FnRoots.j0, Bool.false_eq_true, if_false, h1, Option.bind_some]
    rw [if_pos (show 32 ≤ 281474976710656 by decide)]
    by_cases hs : (strOfNums r).toList = (strOfNums x).toList
    · rw [if_pos hs]
    · rw [if_neg hs]
      rcases hc with h | h
      · exact absurd (by rw [h]) hs
      · rw [h, bne_self_eq_false]
theorem el_even (r : Nat) (h : r % 2 = 0) : (Int.tmod (rd (el r) 0) 2 == 1) = false := by
  have hrd : rd (el r) 0 = ((r % 256 : Nat) : Int) := by
    have := limbs_getD 256 32 r 0 (by omega)
    rw [Nat.pow_zero, Nat.div_one] at this
    rw [← this]; simp [rd, el]
  rw [hrd, Int.tmod_eq_emod_of_nonneg (by omega), beq_eq_false_iff_ne]
  omega
theorem FnRoots_el (a r s : Nat) (ha : a < PP) (hr : r < PP) (hs : s = a * a % PP) (hok : rtOk s = true) (hV : rtV s = r) (hev : r % 2 = 0) (hsq : r * r % PP = s) (hca : r = a ∨ r = (0 + PP - a) % PP) (l : List Int) (hl : ¬ (l.length : Int) > 1048576) (hx : spec_ElementOf.f l = some (el a)) : Ev (fun k => laws_FnRoots.f k l) true := by
  have hsP : s < PP := by rw [hs]; exact mod_lt _
  have m1 := mulR a a ha ha
  rw [← hs] at m1
  have r1 := rootR s hsP
  rw [hok, hV] at r1
  have m2 := mulR r r hr hr
  rw [hsq] at m2
  have h1 := subR 0 a FldP.PP_pos ha
  rw [el_zero] at h1
  have hc : el r = el a ∨ el r = el ((0 + PP - a) % PP) := by
    rcases hca with h | h
    · left; rw [h]
    · right; rw [← h]
  exact FnRoots_go l (el a) (el s) (el r) (el ((0 + PP - a) % PP)) hl hx m1 (r1.trans (if_pos rfl)) m2 (by rw [el_length]; rfl) (el_even r hev) h1 hc (FnRoots_j1 a ha)
theorem FnRoots : laws_FnRoots.Pure := by
  intro l _ _ hw
  refine Ev.rounds (g := fun k => laws_FnRoots.f k l) ?_
  have ho : okB l = true := by
    rw [okB, List.all_eq_true]
    intro x hx
    have h : 0 ≤ x ∧ x < 256 := wf_u8r (hw x hx)
    rw [decide_eq_true h.1, decide_eq_true h.2]; rfl
  by_cases hl : (l.length : Int) > 1048576
  · unfold laws_FnRoots.f
    simp only [if_pos hl]; exact Ev.now _
  · have ha := elN_lt l
    exact FnRoots_el (elN l) _ _ ha (rtV_lt _) rfl (rtOk_sq _ ha) rfl (rtV_even _) (rtV_root _ ha) (rtV_cases _ ha) l hl (srcR l ho (by omega))
end Go.Proofs.Ytijeackkgcnbgaa.Pure
