/- The program's DeviceCrash and the reference's give the same device and code for all devices, write into nothing and keep nothing; no condition beyond the statement's own. -/
import Derived.Test.YthojdfndgfpkpaaYKDevCrash
import Derived.Test.YthojdfndgfpkpaaYKDevTot2
import Derived.Test.YthojdfndgfpkpaaWalkFnExactDeviceCrash
namespace Go.Proofs.Ythojdfndgfpkpaa.Pure
open Go.RowKit Go.Proofs.Ythojdfndgfpkpaa Go.Proofs.Ythojdfndgfpkpaa.Num Go.Proofs.Ythojdfndgfpkpaa.YK Go.Proofs.Ythojdfndgfpkpaa.XK Go.Proofs.YthojdfndgfpkpaaW.PrintWords Go.Proofs.YthojdfndgfpkpaaW.PrintLast

theorem FnExactDeviceCrash (A0_0 : Option Addr) (c0_0 : Nat) (h : List Int) (A0_1 : Option Addr) (c0_1 : Nat) (l : List S114) (A1 : Option Addr) (c1 : Nat) (b : List Bool) (w : World) (hr0_0 : Kd.C (Kd.int .u8) w A0_0 h.length h) (hc0_0 : h.length ≤ c0_0) (hr0_1 : Kd.C k114 w A0_1 l.length l) (hc0_1 : l.length ≤ c0_1) (hr1 : Kd.C Kd.bool w A1 b.length b) (hc1 : b.length ≤ c1) (w0 : h.length ≤ maxLen ∧ h.length * 1 ≤ 140737488351232 ∧ ∀ a ∈ h, (Lit.int .u8 a).wf = true) (w1 : l.length ≤ maxLen ∧ l.length * 32 ≤ 140737488351232 ∧ ∀ a ∈ l, laws_FnExactDeviceCrash.W114 a) (_w2 : b.length ≤ maxLen ∧ b.length * 1 ≤ 140737488351232 ∧ ∀ a ∈ b, True) :
    Calls Try.prog 6 #[.agg #[.slice A0_0 h.length c0_0, .slice A0_1 l.length c0_1], .slice A1 b.length c1] w fun e w' => e = .returned (.bool true) ∧ Below w.heap.size w w' := by
  by_cases cb : 1048576 < b.length
  · exact WalkFnExactDeviceCrash.long0 h l b cb A0_0 c0_0 A0_1 c0_1 A1 c1 w hr0_0 hc0_0 hr0_1 hc0_1 hr1 hc1
  · obtain ⟨z, hz, hz1⟩ := szDevice_tot h l (by omega) (by omega) (fun s hs => by have := (w1.2.2 s hs).2.2.1; omega)
    obtain ⟨k0, e0⟩ := Ev.rounds hz
    by_cases c : z < 0
    · exact WalkFnExactDeviceCrash.long h l b z k0 (by omega) e0 c A0_0 c0_0 A0_1 c0_1 A1 c1 w hr0_0 hc0_0 hr0_1 hc0_1 hr1 hc1
    · obtain ⟨b1, b2, b3⟩ := hz1 (by omega)
      have b4 : ∀ s ∈ l, s.f1.length ≤ 1048576 := fun s hs => Nat.le_trans (tot_mem hs) b3
      have hm : (l.map secOf).length = l.length := List.length_map _
      have hb := secs_small b4
      have ht := totB_map l
      have hto := toDevice_is h l b1 b2 b4
      generalize l.map secOf = ls at hm hb ht hto
      obtain ⟨R, cd, h2, h3, h4⟩ := crash_both h ls b (by omega)
      obtain ⟨m1, L1, ls1, h6, q1, q1b⟩ := markDevice_is h ls b1 (by omega) (by omega)
      obtain ⟨m2, bs1, h7, q2⟩ := markBoolS_is b m1 (by omega) q1 q1b
      obtain ⟨k1, e1⟩ := Ev.rounds hto
      obtain ⟨k2, e2⟩ := Ev.rounds h2
      obtain ⟨k3, e3⟩ := Ev.rounds h3
      obtain ⟨k4, e4⟩ := Ev.rounds (eqDevice_same R [] (by omega) (by simp) (by simp))
      obtain ⟨k5, e5⟩ := Ev.rounds (eqDevice_same h ls b1 (by omega) hb)
      obtain ⟨k6, e6⟩ := Ev.rounds h6
      obtain ⟨k7, e7⟩ := Ev.rounds h7
      obtain ⟨k8, e8⟩ := Ev.rounds (markDevice_flat R h4)
      obtain ⟨k9, e9⟩ := Ev.rounds (heldDevice_flat R.length h4)
      obtain ⟨k10, e10⟩ := Ev.rounds (toBoolS_is b (by omega))
      obtain ⟨k11, e11⟩ := Ev.rounds (eqBoolS_same b (by omega))
      exact WalkFnExactDeviceCrash.walk h l b ls R cd z m1 m2 _ _ L1 ls1 [] [] bs1 k0 k1 k2 k3 k4 k5 k6 k7 k8 k9 k10 k11 (by omega) e0 e1 e2 e3 e4 e5 e6 e7 e8 e9 e10 e11 (markL_length 1 R.length) rfl (by omega) q2 (by omega) A0_0 c0_0 A0_1 c0_1 A1 c1 w hr0_0 hc0_0 hr0_1 hc0_1 hr1 hc1
end Go.Proofs.Ythojdfndgfpkpaa.Pure
