-- Written by a program of this session (xp.py over the kit's printer, with functions proved by hand). Lean checks it.
import Derived.Test.YthojdfndgfpkpaaRows
import Derived.Test.YthojdfndgfpkpaaXKx5
import Derived.Test.YthojdfndgfpkpaaPureFnExactDeviceCrash
import Derived.WalkKit
import Derived.ProofKit
import Derived.OpenShut
import Derived.ShutString
import Derived.ChangeOld
import Derived.Below
import Derived.SizedLaws
namespace Go.Proofs.Ythojdfndgfpkpaa.fnExactDeviceCrash
open Go.ChangeShapes Go.WideShapes Go.ChangeAt Go.RowKit Go.Proofs.Ythojdfndgfpkpaa
open Go.ChangeMaps (open_string shut_string)
set_option linter.unusedVariables false
theorem own : ownKnob Try.prog.godebug = none := by kernel_rfl
theorem laidOut : laidOutB Try.prog = true := by kernel_rfl
set_option maxRecDepth 100000 in
theorem lifted (os : Os) (started : os.Started) (H : Type) (enc : TypeId × Value → H) :
    ReturnsInHanded {} Try.checked os 6 .any (Rows.fnExactDeviceCrashSpec.pre6 enc Try.prog Try.f6 Rows.fnExactDeviceCrashRow.domain false) (Rows.fnExactDeviceCrashSpec.post enc Try.prog Try.f6 false true false false) := by
  refine returnsInHanded_of_change_sized (C := Try.checked) own started (by kernel_rfl) Try.func6
    (ChangeSpec.witness6 (enc := enc) (C := Try.checked) false ⟨#[], #[.agg #[.slice none 0 0, .slice none 0 0], .slice none 0 0], []⟩ 8 (by kernel_rfl) (by kernel_rfl) (by kernel_rfl) (by kernel_rfl)) ?_
  intro W base args ds gs before hval0 hW hcnd hsz0 _
  have hsz : (DataW.weightsEach Try.prog (Try.f6.params.toList ++ Rows.fnExactDeviceCrashSpec.plain.varTypes Try.prog) (ds ++ gs)).all (· ≤ reachBytes) = true := hsz0
  have hval : ∀ (j : Nat) t v, Try.f6.params[j]? = some t → args[j]? = some v → Value.okWide Try.prog W .any base t v := hval0
  have hW' := hW
  obtain ⟨p, q, hA0, hV, rfl, hfz, hnd⟩ := hW
  have hA : DataW.TrodAll enc Try.prog W 0 (fun _ => true) true Try.f6.params.toList args.toList ds p := hA0
  rw [Try.params6] at hA hval hsz
  obtain ⟨v0, vs0, d0, ds0, p0, q0, hargs, rfl, rfl, h0, r0⟩ := trodAll_cons hA
  obtain ⟨v1, vs1, d1, ds1, p1, q1, rfl, rfl, rfl, h1, r1⟩ := trodAll_cons r0
  obtain ⟨rfl, rfl, rfl⟩ := trodAll_nil r1
  obtain rfl : args = #[v0, v1] := by cases args; simp_all
  obtain ⟨rfl, rfl⟩ := trodVars_none hV
  have k0 := h0
  have lt0 : ∀ x ∈ p0, x.block < W.heap.size := by obtain ⟨m, hm⟩ := k0; exact DataW.trod_lt m _ _ _ hm
  have hv0 := hval 0 45 v0 rfl rfl
  obtain ⟨⟨x0_0, x0_1⟩, hK0, ⟨w0_0, w0_1⟩⟩ := Open.OpensAt.arg (XK.laws_FnExactDeviceCrash.arg0) hsz (j := 0) rfl rfl h0
  obtain ⟨cs0, rfl, _⟩ := okWide_struct Try.underlying45 hv0
  obtain ⟨_, _, e, ⟨A0_0, c0_0, rfl, hl0_0, hC0_0⟩, ⟨A0_1, c0_1, rfl, hl0_1, hC0_1⟩⟩ := hK0
  have e2 : cs0 = #[.slice A0_0 x0_0.length c0_0, .slice A0_1 x0_1.length c0_1] := by
    apply Array.toList_inj.1
    exact e
  subst e2
  have k1 := h1
  have lt1 : ∀ x ∈ p1, x.block < W.heap.size := by obtain ⟨m, hm⟩ := k1; exact DataW.trod_lt m _ _ _ hm
  have hv1 := hval 1 55 v1 rfl rfl
  obtain ⟨x1, ⟨A1, c1, e, hl1, hC1⟩, w1⟩ := Open.OpensAt.arg (XK.laws_FnExactDeviceCrash.arg1) hsz (j := 1) rfl rfl h1
  obtain ⟨a_, len_, cap_, rfl⟩ := okWide_slice Try.underlying55 hv1
  have e2 : Value.slice a_ len_ cap_ = .slice A1 x1.length c1 := by simpa [Value.cells] using e
  injection e2 with e3 e4 e5
  have e3 := e3.symm
  have e4 := e4.symm
  have e5 := e5.symm
  subst e3 e4 e5
  clear hA0 hval0 hsz0 hsz
  refine (Pure.FnExactDeviceCrash A0_0 c0_0 x0_0 A0_1 c0_1 x0_1 A1 c1 x1 W hC0_0 hl0_0 hC0_1 hl0_1 hC1 hl1 w0_0 w0_1 w1).mono fun e W' ⟨he, bel⟩ => ?_
  subst he
  exact ⟨_, rfl, _, _, _, [], _, [], hW', trodAll_mk1 (shut_bool Try.underlying4 _), (trodAll_cons_mk (Below.trod laidOut (by kernel_rfl) (of_decide_eq_true (by kernel_rfl)) k0 bel lt0) (trodAll_cons_mk (Below.trod laidOut (by kernel_rfl) (of_decide_eq_true (by kernel_rfl)) k1 bel lt1) trodAll_mk0)), rfl, bel.frame _, fun h => by cases h⟩
theorem over : Rows.fnExactDeviceCrashRow.holds Try.pinned (OpenSpec.ofChange Rows.fnExactDeviceCrashSpec) :=
  OpenClaim.holds_of_wide 6 Try.f6 rfl rfl rfl rfl rfl rfl rfl ⟨rfl, rfl, rfl, rfl, rfl⟩ rfl rfl rfl rfl rfl (by kernel_rfl) Try.func6 (by kernel_rfl)
    (of_decide_eq_true (by kernel_rfl)) (by unfold Func.isWrapper; first | (rw [if_pos (by decide +kernel)]; kernel_rfl) | (rw [if_neg (by decide +kernel)]; exact ⟨rfl, rfl⟩))
    (fun os started H enc _ => lifted os started H enc)
theorem proved : Rows.FnExactDeviceCrashSaid := over
#print axioms proved
end Go.Proofs.Ythojdfndgfpkpaa.fnExactDeviceCrash
namespace Go.Proofs.Ythojdfndgfpkpaa
/-- The row, under a short name, for the claim. -/
theorem fnExactDeviceCrash_holds : Rows.FnExactDeviceCrashSaid := fnExactDeviceCrash.proved
end Go.Proofs.Ythojdfndgfpkpaa
