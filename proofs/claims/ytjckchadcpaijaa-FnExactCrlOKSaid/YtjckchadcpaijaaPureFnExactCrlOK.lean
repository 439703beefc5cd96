/- The program's CrlOK and the reference's give the same answer for every list of revoked certificates, and write into nothing; no condition beyond the statement's own. -/
import Derived.Test.YtjckchadcpaijaaYDCertEq
namespace Go.Proofs.Ytjckchadcpaijaa.Pure
open Go.RowKit Go.Proofs.Ytjckchadcpaijaa.Num Go.Proofs.Ytjckchadcpaijaa.YD Go.Proofs.Ytjckchadcpaijaa.XD Go.Proofs.YtjckchadcpaijaaW.PrintWords Go.Proofs.YtjckchadcpaijaaW.PrintLast

theorem szCrl_is (is : ByteArray) (n th nx : Int) (key : List Int) (h1 : is.size ≤ 140737488351232) (h3 : key.length ≤ 140737488351232) :
    ∃ z, laws_szCrl.f is n th nx key 1048576 = some z ∧ (0 ≤ z → is.size ≤ 1048576 ∧ key.length ≤ 1048576) := by
  unfold laws_szCrl.f laws_szIntS.f
  rw [w64 (n := 1048576 - (is.size : Int)) (by omega) (by omega), w64 (n := 1048576 - (is.size : Int) - (key.length : Int)) (by omega) (by omega)]
  by_cases c1 : 1048576 - (is.size : Int) < 0
  · exact ⟨-1, by rw [if_pos c1], fun h => by omega⟩
  · rw [if_neg c1]
    by_cases c3 : 1048576 - (is.size : Int) - (key.length : Int) < 0
    · exact ⟨-1, by rw [if_pos c3]; rfl, fun h => by omega⟩
    · refine ⟨1048576 - (is.size : Int) - (key.length : Int), ?_, fun h => by omega⟩
      rw [if_neg c3]
      simp only [Option.bind_some]
      rw [if_neg c3]

theorem toIntS_l0 (x0 : List Int) (hn : x0.length < 1099511627776) (d : Nat) : ∀ (i : Nat) (x3 : List Int), x3.length = x0.length → i + d = x0.length → (∀ j, j < i → x3.getD j 0 = x0.getD j 0) → Ev (fun k => laws_toIntS.l0 k x0 x3 (i : Int)) x0 := by
  induction d with
  | zero =>
    intro i x3 hl hd he
    refine Ev.step (f := fun _ => some x3) (fun k => ?_) ?_
    · simp only [laws_toIntS.l0]; rw [if_neg (by omega)]
    · exact Ev.eq (Ev.now _) (ext_getD hl (fun j hj => he j (by omega)))
  | succ d ih =>
    intro i x3 hl hd he
    refine Ev.step (fun k => ?_) (ih (i + 1) (x3.set i (x0.getD i 0)) (by simpa using hl) (by omega) ?_)
    · simp only [laws_toIntS.l0]
      rw [if_pos (by omega), if_pos (by omega), if_pos (by omega), w64 (by omega) (by omega), rd_nat]; rfl
    · intro j hj
      rw [getD_set _ _ _ _ (by omega)]
      by_cases h : j = i
      · rw [if_pos h, h]
      · rw [if_neg h]; exact he j (by omega)
theorem toIntS (l : List Int) (hn : l.length ≤ 1048576) : Ev (fun k => laws_toIntS.f k l) l := by
  unfold laws_toIntS.f
  simp only [if_pos (show 0 ≤ (l.length : Int) by omega), if_pos (show ((l.length : Int)).toNat ≤ 35184372088832 by omega)]
  exact toIntS_l0 l (by omega) l.length 0 _ (by simp) (by omega) (fun j hj => by omega)
theorem eqIntS_l0 (l : List Int) (hn : l.length < 1099511627776) (d : Nat) : ∀ (i : Nat), i + d = l.length → Ev (fun k => laws_eqIntS.l0 k l l (i : Int)) true := by
  induction d with
  | zero =>
    intro i hd
    refine Ev.step (f := fun _ => some true) (fun k => ?_) (Ev.now _)
    simp only [laws_eqIntS.l0]; rw [if_neg (by omega)]
  | succ d ih =>
    intro i hd
    refine Ev.step (fun k => ?_) (ih (i + 1) (by omega))
    simp only [laws_eqIntS.l0]
    rw [if_pos (by omega), if_pos (by omega), if_pos (by omega), if_pos trivial, w64 (by omega) (by omega)]; rfl
theorem eqIntS_same (l : List Int) (hn : l.length < 1099511627776) : Ev (fun k => laws_eqIntS.f k l l) true := by
  unfold laws_eqIntS.f
  simp only [if_true]
  exact eqIntS_l0 l hn l.length 0 (by omega)
theorem toCrl_is (is : ByteArray) (n th nx : Int) (key : List Int) (h : key.length ≤ 1048576) : Ev (fun k => laws_toCrl.f k is n th nx key) (is, n, th, nx, key) := by
  unfold laws_toCrl.f
  exact Ev.bind (toIntS key h) (Ev.now _)

/- from one place on -/
def risesFrom (l : List Int) : Nat → Nat → Bool
  | 0, _ => true
  | d + 1, i => (decide (1 ≤ l.getD i 0) && decide (l.getD i 0 ≤ 1000000)) && ((decide (i = 0) || decide (l.getD (i - 1) 0 < l.getD i 0)) && risesFrom l d (i + 1))
section
variable (l : List Int) (hn : l.length < 1099511627776)
include hn
theorem spec_rises (is : ByteArray) (n th nx : Int) (d : Nat) : ∀ i : Nat, i + d = l.length → Ev (fun k => spec_CrlOK.l0 k (i : Int) is n th nx l) (risesFrom l d i) := by
  induction d with
  | zero =>
    intro i hd
    refine Ev.step (f := fun _ => some true) (fun k => ?_) (Ev.now _)
    simp only [spec_CrlOK.l0]; rw [if_neg (by omega)]
  | succ d ih =>
    intro i hd
    have e1 : wrap64 ((i : Int) + 1) = ((i + 1 : Nat) : Int) := by rw [w64 (by omega) (by omega)]; rfl
    unfold risesFrom
    cases hb : (decide (1 ≤ l.getD i 0) && decide (l.getD i 0 ≤ 1000000)) with
    | false =>
      refine Ev.step (f := fun _ => some false) (fun k => ?_) (Ev.now _)
      simp only [spec_CrlOK.l0]
      rw [if_pos (by omega), if_pos (by omega), rd_nat, in_is, hb]; rfl
    | true =>
      rw [Bool.true_and]
      by_cases hi : i = 0
      · subst hi
        rw [decide_eq_true (show (0 : Nat) = 0 from rfl), Bool.true_or, Bool.true_and]
        refine Ev.step (fun k => ?_) (ih 1 (by omega))
        simp only [spec_CrlOK.l0]
        rw [if_pos (by omega), if_pos (by omega), rd_nat, in_is, hb]
        simp only [Option.bind_some, if_true]
        rw [if_neg (by omega), e1]
      · have e2 : wrap64 ((i : Int) - 1) = ((i - 1 : Nat) : Int) := by rw [w64 (by omega) (by omega)]; omega
        rw [decide_eq_false hi, Bool.false_or]
        by_cases hc : l.getD (i - 1) 0 < l.getD i 0
        · rw [decide_eq_true hc, Bool.true_and]
          refine Ev.step (fun k => ?_) (ih (i + 1) (by omega))
          simp only [spec_CrlOK.l0]
          rw [if_pos (by omega), if_pos (by omega), rd_nat, in_is, hb]
          simp only [Option.bind_some, if_true]
          rw [if_pos (by omega), e2, if_pos (by omega), if_pos (by omega), rd_nat, if_neg (by omega), e1]
        · rw [decide_eq_false hc, Bool.false_and]
          refine Ev.step (f := fun _ => some false) (fun k => ?_) (Ev.now _)
          simp only [spec_CrlOK.l0]
          rw [if_pos (by omega), if_pos (by omega), rd_nat, in_is, hb]
          simp only [Option.bind_some, if_true]
          rw [if_pos (by omega), e2, if_pos (by omega), if_pos (by omega), rd_nat, if_pos (by omega)]
theorem impl_rises' (d : Nat) : ∀ i : Nat, i + d = l.length → Ev (fun k => impl_rises.l0 k l 1 1000000 l (l.length : Int) (i : Int)) (risesFrom l d i) := by
  induction d with
  | zero =>
    intro i hd
    refine Ev.step (f := fun _ => some true) (fun k => ?_) (Ev.now _)
    simp only [impl_rises.l0]; rw [if_neg (by omega)]
  | succ d ih =>
    intro i hd
    have e1 : wrap64 ((i : Int) + 1) = ((i + 1 : Nat) : Int) := by rw [w64 (by omega) (by omega)]; rfl
    unfold risesFrom
    cases hb : (decide (1 ≤ l.getD i 0) && decide (l.getD i 0 ≤ 1000000)) with
    | false =>
      refine Ev.step (f := fun _ => some false) (fun k => ?_) (Ev.now _)
      simp only [impl_rises.l0]
      rw [if_pos (by omega), if_pos (by omega), if_pos (by omega), rd_nat, within_is, hb]; rfl
    | true =>
      rw [Bool.true_and]
      by_cases hi : i = 0
      · subst hi
        rw [decide_eq_true (show (0 : Nat) = 0 from rfl), Bool.true_or, Bool.true_and]
        refine Ev.step (fun k => ?_) (ih 1 (by omega))
        simp only [impl_rises.l0]
        rw [if_pos (by omega), if_pos (by omega), if_pos (by omega), rd_nat, within_is, hb]
        simp only [Option.bind_some, if_true]
        rw [if_neg (by omega), e1]
      · have e2 : wrap64 ((i : Int) - 1) = ((i - 1 : Nat) : Int) := by rw [w64 (by omega) (by omega)]; omega
        rw [decide_eq_false hi, Bool.false_or]
        by_cases hc : l.getD (i - 1) 0 < l.getD i 0
        · rw [decide_eq_true hc, Bool.true_and]
          refine Ev.step (fun k => ?_) (ih (i + 1) (by omega))
          simp only [impl_rises.l0]
          rw [if_pos (by omega), if_pos (by omega), if_pos (by omega), rd_nat, within_is, hb]
          simp only [Option.bind_some, if_true]
          rw [if_pos (by omega), e2, if_pos (by omega), if_pos (by omega), rd_nat, if_neg (by omega), e1]
        · rw [decide_eq_false hc, Bool.false_and]
          refine Ev.step (f := fun _ => some false) (fun k => ?_) (Ev.now _)
          simp only [impl_rises.l0]
          rw [if_pos (by omega), if_pos (by omega), if_pos (by omega), rd_nat, within_is, hb]
          simp only [Option.bind_some, if_true]
          rw [if_pos (by omega), e2, if_pos (by omega), if_pos (by omega), rd_nat, if_pos (by omega)]
end

def crlB (is : ByteArray) (n th nx : Int) (l : List Int) : Bool :=
  nameB is && ((decide (1 ≤ n) && decide (n ≤ 1000000)) && ((decide (0 ≤ th) && decide (th ≤ 253402300799)) && ((decide (th ≤ nx) && decide (nx ≤ 253402300799)) && (decide ((l.length : Int) ≤ 40) && risesFrom l l.length 0))))

theorem spec_crl (is : ByteArray) (n th nx : Int) (l : List Int) (h1 : is.size < 1099511627776) (hn : l.length < 1099511627776) : Ev (fun k => spec_CrlOK.f k is n th nx l) (crlB is n th nx l) := by
  have hj : ∀ b : Bool, Ev (fun k => spec_CrlOK.j0 k b is n th nx l) (!b && risesFrom l l.length 0) := by
    intro b
    cases b with
    | true => exact Ev.step (f := fun _ => some false) (fun k => by simp only [spec_CrlOK.j0, if_true]) (Ev.now _)
    | false => exact Ev.step (fun k => by simp only [spec_CrlOK.j0]; rw [if_neg (by decide)]; rfl) (spec_rises l hn is n th nx l.length 0 (by omega))
  have ht : Ev (fun k => spec_CrlOK.j0 k true is n th nx l) false := hj true
  unfold spec_CrlOK.f crlB
  refine Ev.bind (spec_name is h1) ?_
  simp only [in_is, Option.bind_some]
  cases nameB is with
  | false => simp only [Bool.false_eq_true, if_false, Bool.false_and]; exact ht
  | true =>
    simp only [if_true, Bool.true_and]
    cases (decide (1 ≤ n) && decide (n ≤ 1000000)) with
    | false => simp only [Bool.false_eq_true, if_false, Bool.false_and]; exact ht
    | true =>
      simp only [if_true, Bool.true_and]
      cases (decide (0 ≤ th) && decide (th ≤ 253402300799)) with
      | false => simp only [Bool.false_eq_true, if_false, Bool.false_and]; exact ht
      | true =>
        simp only [if_true, Bool.true_and]
        cases (decide (th ≤ nx) && decide (nx ≤ 253402300799)) with
        | false => simp only [Bool.false_eq_true, if_false, Bool.false_and]; exact ht
        | true =>
          simp only [if_true, Bool.true_and]
          refine Ev.eq (hj _) ?_
          by_cases c : (l.length : Int) ≤ 40
          · rw [decide_eq_true c, decide_eq_false (show ¬ (l.length : Int) > 40 by omega)]; rfl
          · rw [decide_eq_false c, decide_eq_true (show (l.length : Int) > 40 by omega)]; rfl

theorem impl_crl (is : ByteArray) (n th nx : Int) (l : List Int) (h1 : is.size < 1099511627776) (hn : l.length < 1099511627776) : Ev (fun k => impl_CrlOK.f k is n th nx l) (crlB is n th nx l) := by
  unfold impl_CrlOK.f crlB impl_isSerial.f impl_isTime.f
  simp only [impl_subject is h1, within_is, Option.bind_some]
  cases nameB is with
  | false => simp only [Bool.false_eq_true, if_false, Bool.false_and]; exact Ev.now _
  | true =>
    simp only [if_true, Bool.true_and]
    cases (decide (1 ≤ n) && decide (n ≤ 1000000)) with
    | false => simp only [Bool.false_eq_true, if_false, Bool.false_and]; exact Ev.now _
    | true =>
      simp only [if_true, Bool.true_and]
      cases (decide (0 ≤ th) && decide (th ≤ 253402300799)) with
      | false => simp only [Bool.false_eq_true, if_false, Bool.false_and]; exact Ev.now _
      | true =>
        simp only [if_true, Bool.true_and]
        cases (decide (th ≤ nx) && decide (nx ≤ 253402300799)) with
        | false => simp only [Bool.false_eq_true, if_false, Bool.false_and]; exact Ev.now _
        | true =>
          simp only [if_true, Bool.true_and]
          by_cases c : (l.length : Int) ≤ 40
          · simp only [if_pos c, decide_eq_true c, Bool.true_and]
            refine Ev.bind (a := risesFrom l l.length 0) ?_ (Ev.now _)
            have := impl_rises' l hn l.length 0 (by omega)
            simpa [impl_rises.f] using this
          · simp only [if_neg c, decide_eq_false c, Bool.false_and]; exact Ev.now _

theorem FnExactCrlOK : laws_FnExactCrlOK.Pure := by
  intro is n th nx l his hs hfr hto hl
  refine Ev.rounds (g := fun k => laws_FnExactCrlOK.f k is n th nx l) ?_
  obtain ⟨z, hz, hz1⟩ := szCrl_is is n th nx l his (by omega)
  unfold laws_FnExactCrlOK.f
  simp only [hz, Option.bind_some]
  by_cases c : z < 0
  · simp only [if_pos c]; exact Ev.now _
  · simp only [if_neg c]
    obtain ⟨b1, b3⟩ := hz1 (by omega)
    have ht := toCrl_is is n th nx l (by omega)
    refine Ev.bind ht (Ev.bind (spec_crl is n th nx l (by omega) (by omega)) (Ev.bind ht (Ev.bind (impl_crl is n th nx l (by omega) (by omega)) ?_)))
    simp only [bne_self_eq_false, Bool.false_eq_true, if_false]
    refine Ev.bind ht ?_
    refine Ev.bind (a := true) ?_ ?_
    · unfold laws_eqCrl.f
      simp only [if_true]
      refine Ev.bind (eqIntS_same l (by omega)) ?_
      simp only [if_true]
      exact Ev.now _
    · simp only [if_true]; exact Ev.now _
end Go.Proofs.Ytjckchadcpaijaa.Pure
