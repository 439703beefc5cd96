/- The program's Scan and the reference's give the same payloads, place and code for all bytes, write into nothing and keep nothing; no condition beyond the statement's own. -/
import Derived.Test.YtjckchadcpaijaaYSScanEq2
import Derived.Test.YtjckchadcpaijaaWalkFnExactScan
namespace Go.Proofs.Ytjckchadcpaijaa.Pure
open Go.RowKit Go.Proofs.Ytjckchadcpaijaa Go.Proofs.Ytjckchadcpaijaa.Num Go.Proofs.Ytjckchadcpaijaa.YS Go.Proofs.Ytjckchadcpaijaa.XS Go.Proofs.YtjckchadcpaijaaW.PrintWords Go.Proofs.YtjckchadcpaijaaW.PrintLast

theorem scan_facts (l : List Int) (hb : ∀ x ∈ l, 0 ≤ x ∧ x < 256) (hn : l.length ≤ 1048576) : ∃ (R : List (List Int)) (a c : Int), Ev (fun k => spec_Scan.f k l) (R, a, c) ∧ Ev (fun k => impl_Scan.f k l) (R, a, c) ∧ R.length ≤ 65536 ∧ ∀ s ∈ R, s.length ≤ 2000 := by
  unfold spec_Scan.f impl_Scan.f impl_isShort_byte.f
  by_cases c : (l.length : Int) ≤ 65536
  · obtain ⟨R, h1, h2, h3, h4⟩ := scan_both l hb (by omega)
    refine ⟨R.1, R.2, 0, ?_, ?_, by omega, h4⟩
    · simp only [if_neg (show ¬ (l.length : Int) > 65536 by omega)]
      exact Ev.bind h2 (Ev.now _)
    · simp only [decide_eq_true c, Option.bind_some, if_true]
      exact Ev.bind h1 (Ev.now _)
  · refine ⟨[], 0, 2, ?_, ?_, by simp, by simp⟩
    · simp only [if_pos (show (l.length : Int) > 65536 by omega)]; exact Ev.now _
    · simp only [decide_eq_false c, Option.bind_some, Bool.false_eq_true, if_false]; exact Ev.now _

set_option maxHeartbeats 4000000 in
set_option maxRecDepth 100000 in
theorem long (l0 : List Int) (A0 : Option Addr) (c0 : Nat) (w : World) (h : 1048576 < l0.length) :
    Calls Try.prog 7 #[.slice A0 l0.length c0] w fun e w' => e = .returned (.bool true) ∧ Below w.heap.size w w' := by
  have t0 : decide ((l0.length : Int) > 1048576) = true := decide_eq_true (by omega)
  have t0b : decide ((1048576 : Int) < (l0.length : Int)) = true := decide_eq_true (by omega)
  clear h
  go_enter Try.func7, Try.ntmps7
  go_wp2
  go_ret
  exact ⟨rfl, Below.refl _ _⟩

theorem FnExactScan (A0 : Option Addr) (c0 : Nat) (l0 : List Int) (w : World) (hr0 : Kd.C (Kd.int .u8) w A0 l0.length l0) (hc0 : l0.length ≤ c0) (w0 : l0.length ≤ maxLen ∧ l0.length * 1 ≤ 140737488351232 ∧ ∀ a ∈ l0, (Lit.int .u8 a).wf = true) :
    Calls Try.prog 7 #[.slice A0 l0.length c0] w fun e w' => e = .returned (.bool true) ∧ Below w.heap.size w w' := by
  have hb : ∀ x ∈ l0, 0 ≤ x ∧ x < 256 := fun x hx => wf_u8 (w0.2.2 x hx)
  by_cases c : 1048576 < l0.length
  · exact long l0 A0 c0 w c
  · obtain ⟨R, a, d, h2, h3, h4, h5⟩ := scan_facts l0 hb (by omega)
    have hw : ∀ s ∈ R, s.length ≤ 1048576 := fun s hs => Nat.le_trans (h5 s hs) (by decide)
    have ht := tot_le R hw
    obtain ⟨k1, e1⟩ := Ev.rounds (toByteS l0 (by omega))
    obtain ⟨k2, e2⟩ := Ev.rounds h2
    obtain ⟨k3, e3⟩ := Ev.rounds h3
    obtain ⟨k4, e4⟩ := Ev.rounds (eqByteSS_same R (by omega) hw)
    obtain ⟨k5, e5⟩ := Ev.rounds (eqByteS_same l0 (by omega))
    obtain ⟨k6, e6⟩ := Ev.rounds (markByteS l0 1 (by omega) (by omega) (by omega))
    obtain ⟨k7, e7⟩ := Ev.rounds (markByteSS R 1 (by omega) (by omega) (by omega) hw)
    obtain ⟨k8, e8⟩ := Ev.rounds (heldByteSS R 1 (by omega) (by omega) (by omega) hw)
    exact WalkFnExactScan.walk l0 R a d _ _ _ _ k1 k2 k3 k4 k5 k6 k7 k8 (by omega) e1 e2 e3 e4 e5 e6 e7 e8 (mkL_length R 1) (by omega) (by omega) A0 c0 w hr0 hc0
end Go.Proofs.Ytjckchadcpaijaa.Pure
