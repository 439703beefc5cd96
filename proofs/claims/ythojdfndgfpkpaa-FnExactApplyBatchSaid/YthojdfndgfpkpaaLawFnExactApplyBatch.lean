-- Written by a program of this session (xp.py over the kit's printer, with functions proved by hand). Lean checks it.
import Derived.Test.YthojdfndgfpkpaaRows
import Derived.Test.YthojdfndgfpkpaaXAx11
import Derived.Test.YthojdfndgfpkpaaPureFnExactApplyBatch
import Derived.WalkKit
import Derived.ProofKit
import Derived.OpenShut
import Derived.ShutString
import Derived.ChangeOld
import Derived.Below
import Derived.SizedLaws
namespace Go.Proofs.Ythojdfndgfpkpaa.fnExactApplyBatch
open Go.ChangeShapes Go.WideShapes Go.ChangeAt Go.RowKit Go.Proofs.Ythojdfndgfpkpaa
open Go.ChangeMaps (open_string shut_string)
set_option linter.unusedVariables false
theorem own : ownKnob Try.prog.godebug = none := by kernel_rfl
theorem laidOut : laidOutB Try.prog = true := by kernel_rfl
set_option maxRecDepth 100000 in
theorem lifted (os : Os) (started : os.Started) (H : Type) (enc : TypeId × Value → H) :
    ReturnsInHanded {} Try.checked os 8 .any (Rows.fnExactApplyBatchSpec.pre6 enc Try.prog Try.f8 Rows.fnExactApplyBatchRow.domain false) (Rows.fnExactApplyBatchSpec.post enc Try.prog Try.f8 false true false false) := by
  refine returnsInHanded_of_change_sized (C := Try.checked) own started (by kernel_rfl) Try.func8
    (ChangeSpec.witness6 (enc := enc) (C := Try.checked) false ⟨#[], #[.slice none 0 0, .slice none 0 0], []⟩ 8 (by kernel_rfl) (by kernel_rfl) (by kernel_rfl) (by kernel_rfl)) ?_
  intro W base args ds gs before hval0 hW hcnd hsz0 _
  have hsz : (DataW.weightsEach Try.prog (Try.f8.params.toList ++ Rows.fnExactApplyBatchSpec.plain.varTypes Try.prog) (ds ++ gs)).all (· ≤ reachBytes) = true := hsz0
  have hval : ∀ (j : Nat) t v, Try.f8.params[j]? = some t → args[j]? = some v → Value.okWide Try.prog W .any base t v := hval0
  have hW' := hW
  obtain ⟨p, q, hA0, hV, rfl, hfz, hnd⟩ := hW
  have hA : DataW.TrodAll enc Try.prog W 0 (fun _ => true) true Try.f8.params.toList args.toList ds p := hA0
  rw [Try.params8] at hA hval hsz
  obtain ⟨v0, vs0, d0, ds0, p0, q0, hargs, rfl, rfl, h0, r0⟩ := trodAll_cons hA
  obtain ⟨v1, vs1, d1, ds1, p1, q1, rfl, rfl, rfl, h1, r1⟩ := trodAll_cons r0
  obtain ⟨rfl, rfl, rfl⟩ := trodAll_nil r1
  obtain rfl : args = #[v0, v1] := by cases args; simp_all
  obtain ⟨rfl, rfl⟩ := trodVars_none hV
  have k0 := h0
  have lt0 : ∀ x ∈ p0, x.block < W.heap.size := by obtain ⟨m, hm⟩ := k0; exact DataW.trod_lt m _ _ _ hm
  have hv0 := hval 0 22 v0 rfl rfl
  obtain ⟨x0, ⟨A0, c0, e, hl0, hC0⟩, w0⟩ := Open.OpensAt.arg (XA.laws_FnExactApplyBatch.arg0) hsz (j := 0) rfl rfl h0
  obtain ⟨a_, len_, cap_, rfl⟩ := okWide_slice Try.underlying22 hv0
  have e2 : Value.slice a_ len_ cap_ = .slice A0 x0.length c0 := by simpa [Value.cells] using e
  injection e2 with e3 e4 e5
  have e3 := e3.symm
  have e4 := e4.symm
  have e5 := e5.symm
  subst e3 e4 e5
  have k1 := h1
  have lt1 : ∀ x ∈ p1, x.block < W.heap.size := by obtain ⟨m, hm⟩ := k1; exact DataW.trod_lt m _ _ _ hm
  have hv1 := hval 1 31 v1 rfl rfl
  obtain ⟨x1, ⟨A1, c1, e, hl1, hC1⟩, w1⟩ := Open.OpensAt.arg (XA.laws_FnExactApplyBatch.arg1) hsz (j := 1) rfl rfl h1
  obtain ⟨a_, len_, cap_, rfl⟩ := okWide_slice Try.underlying31 hv1
  have e2 : Value.slice a_ len_ cap_ = .slice A1 x1.length c1 := by simpa [Value.cells] using e
  injection e2 with e3 e4 e5
  have e3 := e3.symm
  have e4 := e4.symm
  have e5 := e5.symm
  subst e3 e4 e5
  clear hA0 hval0 hsz0 hsz
  refine (XA.laws_FnExactApplyBatch.walk Pure.FnExactApplyBatch A0 c0 x0 A1 c1 x1 W hC0 hl0 hC1 hl1 w0 w1).mono fun e W' ⟨he, bel⟩ => ?_
  subst he
  exact ⟨_, rfl, _, _, _, [], _, [], hW', trodAll_mk1 (shut_bool Try.underlying4 _), (trodAll_cons_mk (Below.trod laidOut (by kernel_rfl) (of_decide_eq_true (by kernel_rfl)) k0 bel lt0) (trodAll_cons_mk (Below.trod laidOut (by kernel_rfl) (of_decide_eq_true (by kernel_rfl)) k1 bel lt1) trodAll_mk0)), rfl, bel.frame _, fun h => by cases h⟩
theorem over : Rows.fnExactApplyBatchRow.holds Try.pinned (OpenSpec.ofChange Rows.fnExactApplyBatchSpec) :=
  OpenClaim.holds_of_wide 8 Try.f8 rfl rfl rfl rfl rfl rfl rfl ⟨rfl, rfl, rfl, rfl, rfl⟩ rfl rfl rfl rfl rfl (by kernel_rfl) Try.func8 (by kernel_rfl)
    (of_decide_eq_true (by kernel_rfl)) (by unfold Func.isWrapper; first | (rw [if_pos (by decide +kernel)]; kernel_rfl) | (rw [if_neg (by decide +kernel)]; exact ⟨rfl, rfl⟩))
    (fun os started H enc _ => lifted os started H enc)
theorem proved : Rows.FnExactApplyBatchSaid := over
#print axioms proved
end Go.Proofs.Ythojdfndgfpkpaa.fnExactApplyBatch
namespace Go.Proofs.Ythojdfndgfpkpaa
/-- The row, under a short name, for the claim. -/
theorem fnExactApplyBatch_holds : Rows.FnExactApplyBatchSaid := fnExactApplyBatch.proved
end Go.Proofs.Ythojdfndgfpkpaa
