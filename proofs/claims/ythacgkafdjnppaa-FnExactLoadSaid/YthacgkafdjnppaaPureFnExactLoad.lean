/- The program's Load and the reference's give the same store and code for all devices, write into nothing and keep nothing; no condition beyond the statement's own. -/
import Derived.Test.YthacgkafdjnppaaYULoadEq
import Derived.Test.YthacgkafdjnppaaYUDevTotL
import Derived.Test.YthacgkafdjnppaaYUFlatPairM
import Derived.Test.YthacgkafdjnppaaWalkFnExactLoad
namespace Go.Proofs.Ythacgkafdjnppaa.Pure
open Go.RowKit Go.Proofs.Ythacgkafdjnppaa Go.Proofs.Ythacgkafdjnppaa.Num Go.Proofs.Ythacgkafdjnppaa.YU Go.Proofs.Ythacgkafdjnppaa.XU Go.Proofs.YthacgkafdjnppaaW.PrintWords Go.Proofs.YthacgkafdjnppaaW.PrintLast
theorem FnExactLoad (A0_0 : Option Addr) (c0_0 : Nat) (h : List Int) (A0_1 : Option Addr) (c0_1 : Nat) (l : List S58) (w : World) (hr0_0 : Kd.C (Kd.int .u8) w A0_0 h.length h) (hc0_0 : h.length ≤ c0_0) (hr0_1 : Kd.C k58 w A0_1 l.length l) (hc0_1 : l.length ≤ c0_1) (w0 : h.length ≤ maxLen ∧ h.length * 1 ≤ 140737488351232 ∧ ∀ a ∈ h, (Lit.int .u8 a).wf = true) (w1 : l.length ≤ maxLen ∧ l.length * 32 ≤ 140737488351232 ∧ ∀ a ∈ l, laws_FnExactLoad.W58 a) :
    Calls Try.prog 3 #[.agg #[.slice A0_0 h.length c0_0, .slice A0_1 l.length c0_1]] w fun e w' => e = .returned (.bool true) ∧ Below w.heap.size w w' := by
  obtain ⟨z, hz, hz1⟩ := szDevice_tot h l (by omega) (by omega) (fun s hs => by have := (w1.2.2 s hs).2.2.1; omega)
  obtain ⟨k0, e0⟩ := Ev.rounds hz
  by_cases c : z < 0
  · exact WalkFnExactLoad.long h l z k0 e0 c A0_0 c0_0 A0_1 c0_1 w hr0_0 hc0_0 hr0_1 hc0_1
  · obtain ⟨b1, b2, b3⟩ := hz1 (by omega)
    have b4 : ∀ s ∈ l, s.f1.length ≤ 1048576 := fun s hs => Nat.le_trans (tot_mem hs) b3
    have hm : (l.map secOf).length = l.length := List.length_map _
    have hb := secs_small b4
    have ht := totB_map l
    have hy : ∀ s ∈ l.map secOf, ∀ y ∈ s.f1, 0 ≤ y ∧ y < 256 := by
      intro s hs y hy
      obtain ⟨a, ha, rfl⟩ := List.mem_map.1 hs
      exact wf_u8 ((w1.2.2 a ha).2.2.2 y hy)
    have hh : ∀ y ∈ h, 0 ≤ y ∧ y < 256 := fun y hy => wf_u8 (w0.2.2 y hy)
    have hto := toDevice_is h l b1 b2 b4
    generalize l.map secOf = ls at hm hb ht hto hy
    obtain ⟨R, cd, h2, h3, h4⟩ := load_both h ls (by omega) hh hy
    obtain ⟨m1, L1, ls1, h6, q1⟩ := markDevice_is h ls b1 (by omega) (by omega)
    obtain ⟨k1, e1⟩ := Ev.rounds hto
    obtain ⟨k2, e2⟩ := Ev.rounds h2
    obtain ⟨k3, e3⟩ := Ev.rounds h3
    obtain ⟨k4, e4⟩ := Ev.rounds (eqPairS_same R (by omega))
    obtain ⟨k5, e5⟩ := Ev.rounds (eqDevice_same h ls b1 (by omega) hb)
    obtain ⟨k6, e6⟩ := Ev.rounds h6
    obtain ⟨k7, e7⟩ := Ev.rounds (markPairS_is R 1 (by omega) (by omega) (by omega))
    obtain ⟨k8, e8⟩ := Ev.rounds (heldPairS_is 1 R.length (by omega) (by omega) (by omega))
    exact WalkFnExactLoad.walk h l ls R cd z m1 _ _ L1 ls1 k0 k1 k2 k3 k4 k5 k6 k7 k8 e0 e1 e2 e3 e4 e5 e6 e7 e8 (mkPairS_length 1 R.length) (by omega) q1 (by omega) A0_0 c0_0 A0_1 c0_1 w hr0_0 hc0_0 hr0_1 hc0_1
end Go.Proofs.Ythacgkafdjnppaa.Pure
