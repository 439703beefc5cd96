/- The program adds points as the reference does and in either order, the sum is a point, and sums of scalars give sums of the base point's multiples; no condition beyond the statement's own. -/
import Derived.Test.YtlajcahlmbjmnaaYQModEq
import Derived.Test.YtlajcahlmbjmnaaYFldGrp
import Derived.Test.YtlajcahlmbjmnaaYFldOpsS
namespace Go.Proofs.Ytlajcahlmbjmnaa.Pure
open Go.RowKit Go.Proofs.Ytlajcahlmbjmnaa.Limb Go.Proofs.Ytlajcahlmbjmnaa.FldA Go.Proofs.Ytlajcahlmbjmnaa.FldB Go.Proofs.Ytlajcahlmbjmnaa.FldS Go.Proofs.Ytlajcahlmbjmnaa.FldW Go.Proofs.Ytlajcahlmbjmnaa.FldPt Go.Proofs.Ytlajcahlmbjmnaa.FldOps Go.Proofs.Ytlajcahlmbjmnaa.FldOpsS Go.Proofs.Ytlajcahlmbjmnaa.FldDec Go.Proofs.Ytlajcahlmbjmnaa.FldGrp Go.Proofs.Ytlajcahlmbjmnaa.Edw Go.Proofs.Ytlajcahlmbjmnaa.EdP Go.Proofs.Ytlajcahlmbjmnaa.Num Go.Proofs.Ytlajcahlmbjmnaa.YQ Go.Proofs.Ytlajcahlmbjmnaa.XQ Go.Proofs.YtlajcahlmbjmnaaW.PrintWords Go.Proofs.YtlajcahlmbjmnaaW.PrintLast
theorem wf_u8p {x : Int} (h : (Lit.int .u8 x).wf = true) : 0 ≤ x ∧ x < 256 := by
  simp [Lit.wf, IntKind.min, IntKind.max, IntKind.signed, IntKind.bits] at h
  omega
theorem okB_getD (l : List Int) (h : ∀ i, i < l.length → 0 ≤ l.getD i 0 ∧ l.getD i 0 < 256) : okB l = true := by
  rw [okB, List.all_eq_true]
  intro x hx
  obtain ⟨i, hi, rfl⟩ := List.getElem_of_mem hx
  have := h i hi
  rw [List.getD_eq_getElem?_getD, List.getElem?_eq_getElem hi, Option.getD_some] at this
  rw [decide_eq_true this.1, decide_eq_true this.2]; rfl
theorem okB_limbs (n v : Nat) : okB (limbs 256 n v) = true := okB_getD _ fun i hi => by
  rw [limbs_length] at hi
  rw [limbs_getD _ _ _ _ hi]
  generalize v / 256 ^ i = q
  omega
theorem okB_encL (x y : Nat) (hy : y < FldB.PP) : okB (encL x y) = true := by
  unfold encL
  split
  · refine okB_getD _ fun i hi => ?_
    rw [List.length_set, limbs_length] at hi
    rw [List.getD_eq_getElem?_getD, List.getElem?_set]
    by_cases e : 31 = i
    · subst e
      rw [if_pos rfl, if_pos (by rw [limbs_length]; decide), Option.getD_some, limbs_getD _ _ _ _ (by decide)]
      have h : y / 256 ^ 31 < 128 := Nat.div_lt_of_lt_mul (Nat.lt_of_lt_of_le hy (by decide))
      generalize y / 256 ^ 31 = q at *
      clear hy
      omega
    · rw [if_neg e, ← List.getD_eq_getElem?_getD, limbs_getD _ _ _ _ hi]
      generalize y / 256 ^ i = q
      clear hy
      omega
  · exact okB_limbs _ _
theorem okB_encP (P : PtP) : okB (encP P) = true := okB_encL _ _ (yN P).1
theorem addI_enc (P Q : PtP) : impl_PointAdd.f (encP P) (encP Q) = some (encP (Pt.add cu P Q), 0) := by
  unfold impl_PointAdd.f
  rw [if_pos (by rw [ok_enc, okB_encP, ok_enc, okB_encP]; rfl), add_bytes _ _ (ok_enc P) (ok_enc Q), pt_enc, pt_enc]
theorem addS_enc (P Q : PtP) : spec_PointAdd.f (encP P) (encP Q) = some (encP (Pt.add cu P Q), 0) := by
  unfold spec_PointAdd.f
  rw [if_pos (by rw [ok_enc, okB_encP, ok_enc, okB_encP]; rfl), enc4_is (is_addS rfl ⟨Nat.le_of_lt (q4_lt _ (ok_enc P)).1, Nat.le_of_lt (q4_lt _ (ok_enc Q)).1⟩ (is_q4 _ (ok_enc P)) (is_q4 _ (ok_enc Q))), pt_enc, pt_enc]
theorem ok_encI (P : PtP) : impl_PointOK.f (encP P) = some true := by
  unfold impl_PointOK.f
  rw [if_pos (okB_encP P), ok_enc]
theorem ord_lt : orderN < FldB.PP := by decide
theorem mulI_enc (a : Nat) (ha : a < orderN) (P : PtP) : impl_PointTimes.f (limbs 256 32 a) (encP P) = some (encP (Pt.mul cu P a), 0) := by
  unfold impl_PointTimes.f
  rw [if_pos (by rw [okB_limbs, ok_enc, okB_encP, limbs_length]; rfl), bval_limbs a (Nat.lt_trans ha ord_lt), mul_bytes a (Nat.lt_trans ha (by decide)) _ (ok_enc P), pt_enc]
theorem isSc_limbs (a : Nat) (ha : a < orderN) : isSc (limbs 256 32 a) = true := by
  unfold isSc
  rw [limbs_length, bval_limbs a (Nat.lt_trans ha ord_lt), decide_eq_true ha]; rfl
theorem maI_enc (a b c : Nat) (ha : a < orderN) (hb : b < orderN) (hc : c < orderN) : impl_ScalarMulAdd.f (limbs 256 32 a) (limbs 256 32 b) (limbs 256 32 c) = some (limbs 256 32 ((a * b + c) % orderN), 0) := by
  unfold impl_ScalarMulAdd.f
  rw [if_pos (by rw [isSc_limbs a ha, isSc_limbs b hb, isSc_limbs c hc, okB_limbs, okB_limbs, okB_limbs]; rfl), bval_limbs a (Nat.lt_trans ha ord_lt), bval_limbs b (Nat.lt_trans hb ord_lt), bval_limbs c (Nat.lt_trans hc ord_lt)]
theorem base_I : impl_BasePoint.f = some (encP baseP) := by
  rw [base_enc]
  unfold impl_BasePoint.f baseL
  rw [show baseY * 1 % FldB.PP = EdP.bY by decide +kernel]
theorem ptF_enc (l : List Int) : ∃ P, ptF l = encP P := by
  unfold ptF
  split
  · exact ⟨_, rfl⟩
  · split
    · exact ⟨_, base_enc.symm⟩
    · exact ⟨_, rfl⟩
theorem pt_S (l : List Int) (ho : okB l = true) (hl : l.length ≤ 1048576) : ∃ P, spec_PointOf.f l = some (encP P) := by
  obtain ⟨P, hP⟩ := ptF_enc l
  refine ⟨P, ?_⟩
  unfold spec_PointOf.f
  rw [if_pos (by rw [ho, decide_eq_true (show l.length < 1099511627776 by omega)]; rfl), hP]
theorem sc_S (l : List Int) (ho : okB l = true) (hl : l.length ≤ 1048576) : ∃ a, a < orderN ∧ Ev (fun k => spec_ScalarsOf.f k l) (limbs 256 32 a) := by
  refine ⟨bval (srcB l) % orderN, Nat.mod_lt _ (by decide), ?_⟩
  unfold spec_ScalarsOf.f
  simp only [if_pos (show (okB l && decide (l.length < 1099511627776)) = true by rw [ho, decide_eq_true (show l.length < 1099511627776 by omega)]; rfl)]
  exact l05Mod (srcB l) (srcL_ok l (okB_ok l ho) _) (by have := srcB_len l (okB_ok l ho); omega)
theorem one_L : ([1] : List Int) ++ List.replicate 31 0 = limbs 256 32 1 := by decide
theorem ord_same : orderN = EdP.ordN := by decide
theorem scalars_hold (l0 l1 : List Int) (h0 : okB l0 = true) (h1 : okB l1 = true) (n0 : l0.length ≤ 1048576) (n1 : l1.length ≤ 1048576) : Ev (fun k => laws_FnPoints.j1 k l0 l1 false) true := by
  obtain ⟨a, ha, ea⟩ := sc_S l0 h0 n0
  obtain ⟨b, hb, eb⟩ := sc_S l1 h1 n1
  have hs : encP (Pt.add cu (Pt.mul cu baseP a) (Pt.mul cu baseP b)) = encP (Pt.mul cu baseP ((a * 1 + b) % orderN)) := by
    rw [base_sum, Nat.mul_one, ord_same]
  refine Ev.step (fun k => by simp only [laws_FnPoints.j1, Bool.false_eq_true, if_false]; rfl) ?_
  refine Ev.bind ea ?_
  refine Ev.bind eb ?_
  simp only [Option.bind_some, List.length_cons, List.length_nil, one_L, maI_enc a 1 b ha (by decide) hb, base_I, mulI_enc a ha, mulI_enc b hb, addI_enc, mulI_enc ((a * 1 + b) % orderN) (Nat.mod_lt _ (by decide)), hs, if_true, if_pos (show 0 + 1 + 31 < 140737488355328 by decide), beq_self_eq_true]
  exact Ev.now _
theorem FnPoints : laws_FnPoints.Pure := by
  intro l0 l1 _ _ hw0 _ _ hw1
  refine Ev.rounds (g := fun k => laws_FnPoints.f k l0 l1) ?_
  have h0 : okB l0 = true := by
    rw [okB, List.all_eq_true]
    intro x hx
    have h := wf_u8p (hw0 x hx)
    rw [decide_eq_true h.1, decide_eq_true h.2]; rfl
  have h1 : okB l1 = true := by
    rw [okB, List.all_eq_true]
    intro x hx
    have h := wf_u8p (hw1 x hx)
    rw [decide_eq_true h.1, decide_eq_true h.2]; rfl
  have ht : Ev (fun k => laws_FnPoints.j0 k l0 l1 true) true := Ev.step (f := fun _ => some true) (fun k => by simp only [laws_FnPoints.j0, if_true]) (Ev.now _)
  unfold laws_FnPoints.f
  by_cases g0 : (l0.length : Int) > 1048576
  · simp only [if_pos g0]; exact ht
  · simp only [if_neg g0]
    by_cases g1 : (l1.length : Int) > 1048576
    · simp only [decide_eq_true g1]; exact ht
    · simp only [decide_eq_false g1]
      obtain ⟨P, hP⟩ := pt_S l0 h0 (by omega)
      obtain ⟨Q, hQ⟩ := pt_S l1 h1 (by omega)
      refine Ev.step (fun k => ?_) (scalars_hold l0 l1 h0 h1 (by omega) (by omega))
      simp only [laws_FnPoints.j0, hP, hQ, Option.bind_some, addI_enc, addS_enc, Pt.comm cu Q P, ok_encI, if_true, Bool.false_eq_true, if_false, Bool.not_true]
end Go.Proofs.Ytlajcahlmbjmnaa.Pure
