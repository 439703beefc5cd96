/- Elements of the field add and multiply as numbers do, and each but nothing has an inverse: the law's function answers true for all codes; no condition beyond the statement's own. -/
import Derived.Test.YtijeackkgcnbgaaYGBase
import Derived.Test.YtijeackkgcnbgaaYFldLaw
namespace Go.Proofs.Ytijeackkgcnbgaa.Pure
open Go.RowKit Go.Proofs.Ytijeackkgcnbgaa.Limb Go.Proofs.Ytijeackkgcnbgaa.FldA Go.Proofs.Ytijeackkgcnbgaa.FldB Go.Proofs.Ytijeackkgcnbgaa.FldW Go.Proofs.Ytijeackkgcnbgaa.FldLaw Go.Proofs.Ytijeackkgcnbgaa.StSrc Go.Proofs.Ytijeackkgcnbgaa.Num Go.Proofs.Ytijeackkgcnbgaa.YG Go.Proofs.Ytijeackkgcnbgaa.XG Go.Proofs.YtijeackkgcnbgaaW.PrintWords Go.Proofs.YtijeackkgcnbgaaW.PrintLast

theorem wf_u8f {x : Int} (h : (Lit.int .u8 x).wf = true) : 0 ≤ x ∧ x < 256 := by
  simp [Lit.wf, IntKind.min, IntKind.max, IntKind.signed, IntKind.bits] at h
  omega
theorem okE_two (a b : Nat) (ha : a < PP) (hb : b < PP) : (okE (el a) && okE (el b)) = true := by
  rw [show okE (el a) = true from okE_limbs a ha, show okE (el b) = true from okE_limbs b hb]; rfl
theorem mulF (a b : Nat) (ha : a < PP) (hb : b < PP) : impl_FieldMul.f (el a) (el b) = some (el (a * b % PP), 0) := by
  unfold impl_FieldMul.f
  rw [if_pos (okE_two a b ha hb), show bval (el a) = a from bval_limbs a ha, show bval (el b) = b from bval_limbs b hb]; rfl
theorem mulS (a b : Nat) (ha : a < PP) (hb : b < PP) : spec_FieldMul.f (el a) (el b) = some (el (a * b % PP), 0) := by
  unfold spec_FieldMul.f
  rw [if_pos (okE_two a b ha hb), show bval (el a) = a from bval_limbs a ha, show bval (el b) = b from bval_limbs b hb]; rfl
theorem addF (a b : Nat) (ha : a < PP) (hb : b < PP) : impl_FieldAdd.f (el a) (el b) = some (el ((a + b) % PP), 0) := by
  unfold impl_FieldAdd.f
  rw [if_pos (okE_two a b ha hb), show bval (el a) = a from bval_limbs a ha, show bval (el b) = b from bval_limbs b hb]; rfl
theorem subF (a b : Nat) (ha : a < PP) (hb : b < PP) : impl_FieldSub.f (el a) (el b) = some (el ((a + PP - b) % PP), 0) := by
  unfold impl_FieldSub.f
  rw [if_pos (okE_two a b ha hb), show bval (el a) = a from bval_limbs a ha, show bval (el b) = b from bval_limbs b hb]; rfl
theorem invF0 : impl_FieldInverse.f (el 0) = some ([], 4) := by
  unfold impl_FieldInverse.f
  rw [if_pos (show okE (el 0) = true from okE_limbs 0 (by decide)), show bval (el 0) = 0 from bval_limbs 0 (by decide)]; rfl
theorem invF (a : Nat) (h0 : a ≠ 0) (ha : a < PP) : impl_FieldInverse.f (el a) = some (el (a ^ (PP - 2) % PP), 0) := by
  unfold impl_FieldInverse.f
  rw [if_pos (show okE (el a) = true from okE_limbs a ha), show bval (el a) = a from bval_limbs a ha, if_neg h0]; rfl
theorem okF (a : Nat) (ha : a < PP) : impl_FieldOK.f (el a) = some true := by
  obtain ⟨o, _, _, _, i⟩ := okE_facts (show okE (el a) = true from okE_limbs a ha)
  unfold impl_FieldOK.f impl_isElement.f
  rw [if_pos o, i]; rfl
theorem srcF (l : List Int) (ho : okB l = true) (hl : l.length < 1099511627776) : spec_ElementOf.f l = some (el (elN l)) := by
  unfold spec_ElementOf.f
  rw [ho, decide_eq_true hl]; rfl
theorem FnField_j1 (a : Nat) (ha : a < PP) : Ev (fun k => laws_FnField.j1 k (el a) false) true := by
  by_cases h0 : a = 0
  · subst h0
    refine Ev.step (f := fun _ => some true) (fun k => ?_) (Ev.now _)
    simp only [laws_FnField.j1, invF0, Option.bind_some, Bool.false_eq_true, if_false, if_true]
    rw [if_pos (by decide), el_zero, beq_self_eq_true]
  · have hi := mod_lt (a ^ (PP - 2))
    have h1 := inverse a h0 ha
    have hi2 := invF a h0 ha
    generalize a ^ (PP - 2) % PP = i at *
    have hm := mulF a i ha hi
    rw [h1] at hm
    refine Ev.step (f := fun _ => some true) (fun k => ?_) (Ev.now _)
    simp only [laws_FnField.j1, hi2, hm, okF i hi, Option.bind_some, Bool.false_eq_true, if_false, if_true]
    rw [if_neg (by decide), if_pos (by decide), el_one, beq_self_eq_true]
theorem FnField : laws_FnField.Pure := by
  intro l m _ _ hw _ _ hw2
  refine Ev.rounds (g := fun k => laws_FnField.f k l m) ?_
  have ho : ∀ l : List Int, (∀ x ∈ l, (Lit.int .u8 x).wf = true) → okB l = true := by
    intro l hw
    rw [okB, List.all_eq_true]
    intro x hx
    have h : 0 ≤ x ∧ x < 256 := wf_u8f (hw x hx)
    rw [decide_eq_true h.1, decide_eq_true h.2]; rfl
  have o1 := ho l hw
  have o2 := ho m hw2
  unfold laws_FnField.f
  by_cases hl : (l.length : Int) > 1048576
  · simp only [if_pos hl]
    refine Ev.step (f := fun _ => some true) (fun k => ?_) (Ev.now _)
    simp only [laws_FnField.j0, if_true]
  · simp only [if_neg hl]
    by_cases hl2 : (m.length : Int) > 1048576
    · simp only [decide_eq_true hl2]
      refine Ev.step (f := fun _ => some true) (fun k => ?_) (Ev.now _)
      simp only [laws_FnField.j0, if_true]
    · simp only [decide_eq_false hl2]
      have ha := elN_lt l
      have hb := elN_lt m
      have s1 := srcF l o1 (by omega)
      have s2 := srcF m o2 (by omega)
      generalize elN l = a at *
      generalize elN m = b at *
      have m1 := mulF a b ha hb
      have m2 := mulF b a hb ha
      rw [Nat.mul_comm b a] at m2
      have a1 := addF a b ha hb
      have b1 := subF ((a + b) % PP) b (mod_lt _) hb
      rw [add_sub a b ha hb] at b1
      have q1 := mulF ((a + b) % PP) ((a + b) % PP) (mod_lt _) (mod_lt _)
      rw [square a b] at q1
      have q2 := mulF a a ha ha
      have q3 := mulF b b hb hb
      have a2 := addF (a * a % PP) (b * b % PP) (mod_lt _) (mod_lt _)
      have a3 := addF (a * b % PP) (a * b % PP) (mod_lt _) (mod_lt _)
      have a4 := addF ((a * a % PP + b * b % PP) % PP) ((a * b % PP + a * b % PP) % PP) (mod_lt _) (mod_lt _)
      have w1 := mulS a b ha hb
      refine Ev.step (fun k => ?_) (FnField_j1 a ha)
      simp only [laws_FnField.j0, s1, s2, m1, m2, a1, b1, q1, q2, q3, a2, a3, a4, w1, Option.bind_some, Bool.false_eq_true, if_false, if_true, bne_self_eq_false]
end Go.Proofs.Ytijeackkgcnbgaa.Pure
