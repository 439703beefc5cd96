/- The program's DeviceOK and the reference's give the same answer for every device, and write into nothing; no condition beyond the statement's own. -/
import Derived.Test.YtjckchadcpaijaaYEDevEq
namespace Go.Proofs.Ytjckchadcpaijaa.Pure
open Go.RowKit Go.Proofs.Ytjckchadcpaijaa.Num Go.Proofs.Ytjckchadcpaijaa.YE Go.Proofs.Ytjckchadcpaijaa.XE Go.Proofs.YtjckchadcpaijaaW.PrintWords Go.Proofs.YtjckchadcpaijaaW.PrintLast

theorem FnExactDeviceOK : laws_FnExactDeviceOK.Pure := by
  intro h l hh hl
  refine Ev.rounds (g := fun k => laws_FnExactDeviceOK.f k h l) ?_
  obtain ⟨z, hz, hz1⟩ := szDevice_is h l (by omega) (by omega) (fun s hs => by have := (hl.2.2 s hs).2; omega)
  unfold laws_FnExactDeviceOK.f
  refine Ev.bind hz ?_
  by_cases c : z < 0
  · simp only [if_pos c]; exact Ev.now _
  · simp only [if_neg c]
    obtain ⟨b1, b2, b3⟩ := hz1 (by omega)
    have ht := toDevice_is h l b1 b2 b3
    have hm : (l.map secOf).length = l.length := List.length_map _
    refine Ev.bind ht (Ev.bind (spec_device h (l.map secOf) (by omega)) (Ev.bind ht ?_))
    simp only [impl_device, Option.bind_some, bne_self_eq_false, Bool.false_eq_true, if_false]
    refine Ev.bind ht (Ev.bind (eqDevice_same h (l.map secOf) b1 (by omega) (secs_small b3)) ?_)
    simp only [if_true]
    exact Ev.now _
end Go.Proofs.Ytjckchadcpaijaa.Pure
