-- Walks of the functions that the law reaches. Joined by a program of this session. Lean checks it.
import Derived.Test.YtlajcahlmbjmnaaXQm0
import Derived.Test.YtlajcahlmbjmnaaXQm1
namespace Go.Proofs.Ytlajcahlmbjmnaa.XQ
open Go.Proofs.Ytlajcahlmbjmnaa.Limb Go.Proofs.Ytlajcahlmbjmnaa.Arr Go.Proofs.Ytlajcahlmbjmnaa.FldA Go.Proofs.Ytlajcahlmbjmnaa.FldB Go.Proofs.Ytlajcahlmbjmnaa.FldC Go.Proofs.Ytlajcahlmbjmnaa.FldS Go.Proofs.Ytlajcahlmbjmnaa.FldP Go.Proofs.Ytlajcahlmbjmnaa.FldW Go.Proofs.Ytlajcahlmbjmnaa.FldM Go.Proofs.Ytlajcahlmbjmnaa.FldT Go.Proofs.Ytlajcahlmbjmnaa.FldRoot Go.Proofs.Ytlajcahlmbjmnaa.FldRoot2 Go.Proofs.Ytlajcahlmbjmnaa.FldPt Go.Proofs.Ytlajcahlmbjmnaa.St Go.Proofs.Ytlajcahlmbjmnaa.OpenS Go.Proofs.Ytlajcahlmbjmnaa.StOps Go.Proofs.Ytlajcahlmbjmnaa.StMid Go.Proofs.Ytlajcahlmbjmnaa.StEq Go.Proofs.Ytlajcahlmbjmnaa.StPt Go.Proofs.Ytlajcahlmbjmnaa.StIdx Go.Proofs.Ytlajcahlmbjmnaa.StSrc Go.Proofs.Ytlajcahlmbjmnaa.FldOps Go.Proofs.Ytlajcahlmbjmnaa.FldOpsS Go.Proofs.Ytlajcahlmbjmnaa.StChain Go.Proofs.Ytlajcahlmbjmnaa.FldLaw Go.Proofs.Ytlajcahlmbjmnaa.FldSqrt Go.Proofs.Ytlajcahlmbjmnaa.FldDec Go.Proofs.Ytlajcahlmbjmnaa.FldGrp Go.Proofs.Ytlajcahlmbjmnaa.Edw Go.Proofs.Ytlajcahlmbjmnaa.EdP
open Go.RowKit Go.Proofs.YtlajcahlmbjmnaaW.PrintWords Go.Proofs.YtlajcahlmbjmnaaW.PrintLast Go.Proofs.YtlajcahlmbjmnaaW.PrintMore
attribute [local go_sem] max2_int min2_int max_two min_two max_three min_three max_four min_four   -- for this text's walks alone
set_option linter.unusedVariables false
set_option linter.unusedSimpArgs false
set_option maxHeartbeats 4000000 in
set_option maxRecDepth 100000 in
theorem impl_element_root.calls (a : Nat) (w : World) (ha : a < PP) :
    Calls Try.prog 43 #[.agg (arr .u64 (num a))] w fun e w' => e = .returned (.tuple #[.agg (arr .u64 (num (if rtOk a = true then rtV a else 0))), .bool (rtOk a)]) ∧ Below w.heap.size w w' := by
  have hPB : PP < BB := by decide
  have HW := Aside0.mk (fun W => (show Calls Try.prog 75 #[.agg (arr .u64 (num a)), .agg #[.int .u64 18446744073709551614, .int .u64 18446744073709551615, .int .u64 18446744073709551615, .int .u64 1152921504606846975]] W _ from by
    have h := impl_element_power.calls a eR W (Nat.lt_trans ha hPB) (by decide)
    rw [num_eR] at h
    exact h))
  obtain ⟨x, hx⟩ : ∃ x, x = rt0 a := ⟨_, rfl⟩
  obtain ⟨z, hz⟩ : ∃ z, z = rt1 a := ⟨_, rfl⟩
  have HXx := Aside0.mk (show x < PP by rw [hx]; exact rt0_lt a)
  have HXz := Aside0.mk (show z < PP by rw [hz]; exact rt1_lt a)
  have HMx := Aside0.mk (fun W => impl_element_times.calls x x W (Nat.lt_trans HXx.out hPB) (Nat.lt_trans HXx.out hPB))
  have HMz := Aside0.mk (fun W => impl_element_times.calls z z W (Nat.lt_trans HXz.out hPB) (Nat.lt_trans HXz.out hPB))
  have HMi := Aside0.mk (fun W => impl_element_times.calls x imaginaryN W (Nat.lt_trans HXx.out hPB) (by decide))
  rw [show a ^ eR % PP = x from hx.symm] at HW
  have E1 := Aside0.mk (show z = if x * x % PP = a then x else x * imaginaryN % PP by rw [hz, hx]; rfl)
  have EO := Aside0.mk (show rtOk a = decide (z * z % PP = a) by rw [hz]; rfl)
  have ER := Aside0.mk hz
  have hEx : ∀ W, (Op.equalIn 10000 34 (.agg (arr .u64 (num (x * x % PP)))) (.agg (arr .u64 (num a)))).run Try.prog W = .ok (decide (x * x % PP = a)) W := fun W => by
    have h := run_eq_arr (P := Try.prog) (w := W) 9998 34 32 4 .u64 .u64 (num (x * x % PP)) (num a) Try.underlying34 (by kernel_rfl) (by kernel_rfl) Try.underlying32 (num_length _) (num_length _)
    rw [num_inj _ _ (Nat.mod_lt _ PP_pos) ha] at h
    exact h
  have hEz : ∀ W, (Op.equalIn 10000 34 (.agg (arr .u64 (num (z * z % PP)))) (.agg (arr .u64 (num a)))).run Try.prog W = .ok (decide (z * z % PP = a)) W := fun W => by
    have h := run_eq_arr (P := Try.prog) (w := W) 9998 34 32 4 .u64 .u64 (num (z * z % PP)) (num a) Try.underlying34 (by kernel_rfl) (by kernel_rfl) Try.underlying32 (num_length _) (num_length _)
    rw [num_inj _ _ (Nat.mod_lt _ PP_pos) ha] at h
    exact h
  clear hx hz hPB ha
  generalize hq : x * x % PP = q at *
  generalize hp : z * z % PP = p at *
  generalize hi : x * imaginaryN % PP = xi at *
  have S := Aside0.mk (((St.start w).push rfl 34 .u64 (num a)).push (World.size_alloc ..) 34 .u64 z4)
  by_cases h0 : q = a
  · have e1 : z = x := by rw [E1.out, if_pos h0]
    have e2 : p = q := by rw [← hp, ← hq, e1]
    have hok : rtOk a = true := by rw [EO.out, e2, decide_eq_true h0]
    rw [hok, if_pos rfl]
    rw [e2, decide_eq_true h0] at hEz
    rw [decide_eq_true h0] at hEx
    rw [e1] at ER
    clear hEz HMz HXz e2 e1 hok hq hp hi h0 E1 EO
    go_enter Try.func43, Try.ntmps43
    go_wp2_with (first
      | ((with_reducible refine gate_dst (N := 5) rfl ?_); refine ld_arr rfl 34 (.tmp 1) rfl w.heap.size rfl (S.out.blk 0 rfl) Try.underlying34 (m := 4) (by kernel_rfl) (num_length _) ?_)
      | ((refine (HW.out _).mono ?_); rintro e w1 ⟨rfl, hb⟩; have S1 := Aside0.mk (S.out.step hb); clear hb)
      | (refine st_arr rfl 34 (.tmp 4) (.tmp 7) rfl w1.heap.size (xs := num x) rfl rfl (blk_new w1 (.cells (arr .u64 z4) 34)) (m := 4) (by kernel_rfl) (num_length _) (by rw [num_length]; rfl) ?_; intro w2 h1 h2 h4 h3; have A0 := Aside0.mk (blk_drew h1); have V0 := Aside0.mk (St.other (S1.out.alloc (.cells (arr .u64 z4) 34)) h2 h3 S1.out.size).drew; clear h1 h2 h3 h4))
    have HG := Aside0.mk S1.out.size
    generalize w1.heap.size = g at *
    clear S1 S
    go_wp2
    refine start_ (n := 5) (S := fun w' => St w [⟨34, .u64, num a⟩, ⟨34, .u64, z4⟩] w' ∧ w'.heap[g]? = some (.cells (arr .u64 (num x)) 34 (0, 0))) (ds := []) #[false, false, false, false, false] (by kernel_rfl) rfl rfl ⟨V0.out, A0.out⟩ (fun hHeld => ?_)
    refine take_ (i := 0) (N := some 8) (v := ?_) (a' := ?_) #[true, false, false, false, false] rfl rfl (by kernel_rfl) (fun _ _ _ h => h) (Or.inl ⟨by rfl, ?_⟩) hHeld ?_ ?_
    rotate_left
    · rintro w' ⟨s0, s1⟩
      refine (run_ld 34 (.tmp 4) (by rfl) g (by rfl) s1 Try.underlying34 (m := 4) (by kernel_rfl) (num_length _)).trans ?_; with_reducible rfl
    rotate_left
    · simp only [Act.put, OpenRow.s1, OpenRow.s2, OpenRow.s3, i64_w, i32_w]; rfl
    refine take_ (i := 1) (N := some 9) (v := ?_) (a' := ?_) #[true, true, false, false, false] rfl rfl (by kernel_rfl) (fun _ _ _ h => h) (Or.inl ⟨by rfl, ?_⟩) hHeld ?_ ?_
    rotate_left
    · rintro w' ⟨s0, s1⟩
      refine (run_ld 34 (.tmp 4) (by rfl) g (by rfl) s1 Try.underlying34 (m := 4) (by kernel_rfl) (num_length _)).trans ?_; with_reducible rfl
    rotate_left
    · simp only [Act.put, OpenRow.s1, OpenRow.s2, OpenRow.s3, i64_w, i32_w]; rfl
    refine take_ (i := 3) (N := some 11) (v := ?_) (a' := ?_) #[true, true, false, true, false] rfl rfl (by kernel_rfl) (fun _ _ _ h => h) (Or.inl ⟨by rfl, ?_⟩) hHeld ?_ ?_
    rotate_left
    · rintro w' ⟨s0, s1⟩
      refine (run_ld 34 (.tmp 1) (by rfl) w.heap.size (by rfl) (s0.blk 0 rfl) Try.underlying34 (m := 4) (by kernel_rfl) (num_length _)).trans ?_; with_reducible rfl
    rotate_left
    · simp only [Act.put, OpenRow.s1, OpenRow.s2, OpenRow.s3, i64_w, i32_w]; rfl
    refine one_ (i := 2) (N := some 10) #[true, true, true, true, false] rfl rfl (by kernel_rfl) (by decide) (fun K hK => ?_)
    refine goes_ Try.func38 (by kernel_rfl) rfl #[.agg (arr .u64 (num x)), .agg (arr .u64 (num x))] (by rfl) rfl rfl (by simp only [List.map_toArray, List.map_cons, List.map_nil] <;> rfl) ?_
    with_reducible refine (HMx.out _).mono ?_
    rintro e w3 ⟨rfl, hb⟩
    refine ⟨_, rfl, ?_⟩
    have V1 := Aside0.mk (V0.out.step hb)
    have A1 := Aside0.mk (blk_below A0.out hb)
    clear hb
    refine hK.out _ _ ⟨V1.out, A1.out⟩ (fun hHeld => ?_)
    clear hK K
    refine norm_ (a' := ?_) ?_ ?_
    rotate_left
    · show Act.put _ (some 10) _ = _
      simp only [Act.put, OpenRow.s1, OpenRow.s2, OpenRow.s3, i64_w, i32_w]
      rfl
    refine pure_ (i := 4) (N := some 12) (v := ?_) (a' := ?_) #[true, true, true, true, true] rfl rfl (by kernel_rfl) (fun _ _ _ h => h) (Or.inl ⟨by rfl, ?_⟩) ?_ ?_
    rotate_left
    · intro w'; go_simp; with_reducible rfl
    rotate_left
    · simp only [Act.put, OpenRow.s1, OpenRow.s2, OpenRow.s3, i64_w, i32_w]; rfl
    refine done_ (by kernel_rfl) ?_
    go_wp2
    have V2 := Aside0.mk V1.out.drew
    have A2 := Aside0.mk (blk_drew A1.out)
    refine start_ (n := 5) (S := fun w' => St w [⟨34, .u64, num a⟩, ⟨34, .u64, z4⟩] w' ∧ w'.heap[g]? = some (.cells (arr .u64 (num x)) 34 (0, 0))) (ds := []) #[false, false, false, false, false] (by kernel_rfl) rfl rfl ⟨V2.out, A2.out⟩ (fun hHeld => ?_)
    refine take_ (i := 0) (N := some 16) (v := ?_) (a' := ?_) #[true, false, false, false, false] rfl rfl (by kernel_rfl) (fun _ _ _ h => h) (Or.inl ⟨by rfl, ?_⟩) hHeld ?_ ?_
    rotate_left
    · rintro w' ⟨s0, s1⟩
      refine (run_ld 34 (.tmp 4) (by rfl) g (by rfl) s1 Try.underlying34 (m := 4) (by kernel_rfl) (num_length _)).trans ?_; with_reducible rfl
    rotate_left
    · simp only [Act.put, OpenRow.s1, OpenRow.s2, OpenRow.s3, i64_w, i32_w]; rfl
    refine take_ (i := 1) (N := some 17) (v := ?_) (a' := ?_) #[true, true, false, false, false] rfl rfl (by kernel_rfl) (fun _ _ _ h => h) (Or.inl ⟨by rfl, ?_⟩) hHeld ?_ ?_
    rotate_left
    · rintro w' ⟨s0, s1⟩
      refine (run_ld 34 (.tmp 4) (by rfl) g (by rfl) s1 Try.underlying34 (m := 4) (by kernel_rfl) (num_length _)).trans ?_; with_reducible rfl
    rotate_left
    · simp only [Act.put, OpenRow.s1, OpenRow.s2, OpenRow.s3, i64_w, i32_w]; rfl
    refine take_ (i := 3) (N := some 19) (v := ?_) (a' := ?_) #[true, true, false, true, false] rfl rfl (by kernel_rfl) (fun _ _ _ h => h) (Or.inl ⟨by rfl, ?_⟩) hHeld ?_ ?_
    rotate_left
    · rintro w' ⟨s0, s1⟩
      refine (run_ld 34 (.tmp 1) (by rfl) w.heap.size (by rfl) (s0.blk 0 rfl) Try.underlying34 (m := 4) (by kernel_rfl) (num_length _)).trans ?_; with_reducible rfl
    rotate_left
    · simp only [Act.put, OpenRow.s1, OpenRow.s2, OpenRow.s3, i64_w, i32_w]; rfl
    refine one_ (i := 2) (N := some 18) #[true, true, true, true, false] rfl rfl (by kernel_rfl) (by decide) (fun K hK => ?_)
    refine goes_ Try.func38 (by kernel_rfl) rfl #[.agg (arr .u64 (num x)), .agg (arr .u64 (num x))] (by rfl) rfl rfl (by simp only [List.map_toArray, List.map_cons, List.map_nil] <;> rfl) ?_
    with_reducible refine (HMx.out _).mono ?_
    rintro e w3 ⟨rfl, hb⟩
    refine ⟨_, rfl, ?_⟩
    have V3 := Aside0.mk (V2.out.step hb)
    have A3 := Aside0.mk (blk_below A2.out hb)
    clear hb
    refine hK.out _ _ ⟨V3.out, A3.out⟩ (fun hHeld => ?_)
    clear hK K
    refine norm_ (a' := ?_) ?_ ?_
    rotate_left
    · show Act.put _ (some 18) _ = _
      simp only [Act.put, OpenRow.s1, OpenRow.s2, OpenRow.s3, i64_w, i32_w]
      rfl
    refine pure_ (i := 4) (N := some 20) (v := ?_) (a' := ?_) #[true, true, true, true, true] rfl rfl (by kernel_rfl) (fun _ _ _ h => h) (Or.inl ⟨by rfl, ?_⟩) ?_ ?_
    rotate_left
    · intro w'; go_simp; with_reducible rfl
    rotate_left
    · simp only [Act.put, OpenRow.s1, OpenRow.s2, OpenRow.s3, i64_w, i32_w]; rfl
    refine done_ (by kernel_rfl) ?_
    rcases Nat.mod_two_eq_zero_or_one x with ho | ho
    · have EV := Aside0.mk (show rtV a = x by unfold rtV; rw [← ER.out, if_neg (by omega)])
      have HO := Aside0.mk (fun W => impl_element_isOdd.calls x W)
      rw [decide_eq_false (by omega)] at HO
      clear ho
      go_wp2_with (first
        | ((with_reducible refine gate_dst (N := 22) rfl ?_); refine ld_arr rfl 34 (.tmp 4) rfl g rfl A3.out Try.underlying34 (m := 4) (by kernel_rfl) (num_length _) ?_)
        | ((with_reducible refine (HO.out _).mono ?_); rintro e w8 ⟨rfl, hb⟩; have V8 := Aside0.mk (V3.out.step hb); have A8 := Aside0.mk (blk_below A3.out hb); clear hb)
        | ((with_reducible refine gate_dst (N := 26) rfl ?_); refine ld_arr rfl 34 (.tmp 4) rfl g rfl A8.out Try.underlying34 (m := 4) (by kernel_rfl) (num_length _) ?_)
        | (refine st_arr rfl 34 (.tmp 2) (.tmp 26) rfl (w.heap.size + 1) (xs := num x) rfl rfl (V8.out.blk 1 rfl) (m := 4) (by kernel_rfl) (num_length _) (by rw [num_length]; rfl) ?_; intro w' h1 h2 h4 h3; have H1 := Aside0.mk h1; have V9 := Aside0.mk (V8.out.row 1 rfl h1 h2 h3); clear h1 h2 h3 h4))
      exact bodyPost_ret (results_ct Try.results43 _ _ (w.heap.size + 1) 34 _ (0, 0) _ rfl H1.out Try.underlying34 rfl (by rw [arr_size, num_length]; kernel_rfl)) rfl ⟨by rw [EV.out]; rfl, V9.out.below⟩
    · have EV := Aside0.mk (show rtV a = (PP - x) % PP by unfold rtV; rw [← ER.out, if_pos ho])
      have HO := Aside0.mk (fun W => impl_element_isOdd.calls x W)
      rw [decide_eq_true ho] at HO
      have HN := Aside0.mk (fun W => impl_element_negative.calls x W HXx.out)
      clear ho
      generalize (PP - x) % PP = y at *
      go_wp2_with (first
        | ((with_reducible refine gate_dst (N := 22) rfl ?_); refine ld_arr rfl 34 (.tmp 4) rfl g rfl A3.out Try.underlying34 (m := 4) (by kernel_rfl) (num_length _) ?_)
        | ((with_reducible refine (HO.out _).mono ?_); rintro e w8 ⟨rfl, hb⟩; have V8 := Aside0.mk (V3.out.step hb); have A8 := Aside0.mk (blk_below A3.out hb); clear hb)
        | ((with_reducible refine gate_dst (N := 24) rfl ?_); refine ld_arr rfl 34 (.tmp 4) rfl g rfl A8.out Try.underlying34 (m := 4) (by kernel_rfl) (num_length _) ?_)
        | ((with_reducible refine (HN.out _).mono ?_); rintro e w9 ⟨rfl, hb⟩; have V9 := Aside0.mk (V8.out.step hb); have A9 := Aside0.mk (blk_below A8.out hb); clear hb)
        | (refine st_arr rfl 34 (.tmp 4) (.tmp 25) rfl g (xs := num y) rfl rfl A9.out (m := 4) (by kernel_rfl) (num_length _) (by rw [num_length, num_length]) ?_; intro w10 h1 h2 h4 h3; have A10 := Aside0.mk h1; have V10 := Aside0.mk (St.other V9.out h2 h3 HG.out); clear h1 h2 h3 h4)
        | ((with_reducible refine gate_dst (N := 26) rfl ?_); refine ld_arr rfl 34 (.tmp 4) rfl g rfl A10.out Try.underlying34 (m := 4) (by kernel_rfl) (num_length _) ?_)
        | (refine st_arr rfl 34 (.tmp 2) (.tmp 26) rfl (w.heap.size + 1) (xs := num y) rfl rfl (V10.out.blk 1 rfl) (m := 4) (by kernel_rfl) (num_length _) (by rw [num_length]; rfl) ?_; intro w' h1 h2 h4 h3; have H1 := Aside0.mk h1; have V11 := Aside0.mk (V10.out.row 1 rfl h1 h2 h3); clear h1 h2 h3 h4))
      exact bodyPost_ret (results_ct Try.results43 _ _ (w.heap.size + 1) 34 _ (0, 0) _ rfl H1.out Try.underlying34 rfl (by rw [arr_size, num_length]; kernel_rfl)) rfl ⟨by rw [EV.out]; rfl, V11.out.below⟩
  · rw [if_neg h0] at E1
    have e1 := E1.out
    subst e1
    rw [decide_eq_false h0] at hEx
    by_cases h1 : p = a
    · have hok : rtOk a = true := by rw [EO.out, decide_eq_true h1]
      rw [hok, if_pos rfl]
      rw [decide_eq_true h1] at hEz
      clear hok hq hp hi h0 h1 E1 EO
      go_enter Try.func43, Try.ntmps43
      go_wp2_with (first
        | ((with_reducible refine gate_dst (N := 5) rfl ?_); refine ld_arr rfl 34 (.tmp 1) rfl w.heap.size rfl (S.out.blk 0 rfl) Try.underlying34 (m := 4) (by kernel_rfl) (num_length _) ?_)
        | ((refine (HW.out _).mono ?_); rintro e w1 ⟨rfl, hb⟩; have S1 := Aside0.mk (S.out.step hb); clear hb)
        | (refine st_arr rfl 34 (.tmp 4) (.tmp 7) rfl w1.heap.size (xs := num x) rfl rfl (blk_new w1 (.cells (arr .u64 z4) 34)) (m := 4) (by kernel_rfl) (num_length _) (by rw [num_length]; rfl) ?_; intro w2 h1 h2 h4 h3; have A0 := Aside0.mk (blk_drew h1); have V0 := Aside0.mk (St.other (S1.out.alloc (.cells (arr .u64 z4) 34)) h2 h3 S1.out.size).drew; clear h1 h2 h3 h4))
      have HG := Aside0.mk S1.out.size
      generalize w1.heap.size = g at *
      clear S1 S
      go_wp2
      refine start_ (n := 5) (S := fun w' => St w [⟨34, .u64, num a⟩, ⟨34, .u64, z4⟩] w' ∧ w'.heap[g]? = some (.cells (arr .u64 (num x)) 34 (0, 0))) (ds := []) #[false, false, false, false, false] (by kernel_rfl) rfl rfl ⟨V0.out, A0.out⟩ (fun hHeld => ?_)
      refine take_ (i := 0) (N := some 8) (v := ?_) (a' := ?_) #[true, false, false, false, false] rfl rfl (by kernel_rfl) (fun _ _ _ h => h) (Or.inl ⟨by rfl, ?_⟩) hHeld ?_ ?_
      rotate_left
      · rintro w' ⟨s0, s1⟩
        refine (run_ld 34 (.tmp 4) (by rfl) g (by rfl) s1 Try.underlying34 (m := 4) (by kernel_rfl) (num_length _)).trans ?_; with_reducible rfl
      rotate_left
      · simp only [Act.put, OpenRow.s1, OpenRow.s2, OpenRow.s3, i64_w, i32_w]; rfl
      refine take_ (i := 1) (N := some 9) (v := ?_) (a' := ?_) #[true, true, false, false, false] rfl rfl (by kernel_rfl) (fun _ _ _ h => h) (Or.inl ⟨by rfl, ?_⟩) hHeld ?_ ?_
      rotate_left
      · rintro w' ⟨s0, s1⟩
        refine (run_ld 34 (.tmp 4) (by rfl) g (by rfl) s1 Try.underlying34 (m := 4) (by kernel_rfl) (num_length _)).trans ?_; with_reducible rfl
      rotate_left
      · simp only [Act.put, OpenRow.s1, OpenRow.s2, OpenRow.s3, i64_w, i32_w]; rfl
      refine take_ (i := 3) (N := some 11) (v := ?_) (a' := ?_) #[true, true, false, true, false] rfl rfl (by kernel_rfl) (fun _ _ _ h => h) (Or.inl ⟨by rfl, ?_⟩) hHeld ?_ ?_
      rotate_left
      · rintro w' ⟨s0, s1⟩
        refine (run_ld 34 (.tmp 1) (by rfl) w.heap.size (by rfl) (s0.blk 0 rfl) Try.underlying34 (m := 4) (by kernel_rfl) (num_length _)).trans ?_; with_reducible rfl
      rotate_left
      · simp only [Act.put, OpenRow.s1, OpenRow.s2, OpenRow.s3, i64_w, i32_w]; rfl
      refine one_ (i := 2) (N := some 10) #[true, true, true, true, false] rfl rfl (by kernel_rfl) (by decide) (fun K hK => ?_)
      refine goes_ Try.func38 (by kernel_rfl) rfl #[.agg (arr .u64 (num x)), .agg (arr .u64 (num x))] (by rfl) rfl rfl (by simp only [List.map_toArray, List.map_cons, List.map_nil] <;> rfl) ?_
      with_reducible refine (HMx.out _).mono ?_
      rintro e w3 ⟨rfl, hb⟩
      refine ⟨_, rfl, ?_⟩
      have V1 := Aside0.mk (V0.out.step hb)
      have A1 := Aside0.mk (blk_below A0.out hb)
      clear hb
      refine hK.out _ _ ⟨V1.out, A1.out⟩ (fun hHeld => ?_)
      clear hK K
      refine norm_ (a' := ?_) ?_ ?_
      rotate_left
      · show Act.put _ (some 10) _ = _
        simp only [Act.put, OpenRow.s1, OpenRow.s2, OpenRow.s3, i64_w, i32_w]
        rfl
      refine pure_ (i := 4) (N := some 12) (v := ?_) (a' := ?_) #[true, true, true, true, true] rfl rfl (by kernel_rfl) (fun _ _ _ h => h) (Or.inl ⟨by rfl, ?_⟩) ?_ ?_
      rotate_left
      · intro w'; go_simp; with_reducible rfl
      rotate_left
      · simp only [Act.put, OpenRow.s1, OpenRow.s2, OpenRow.s3, i64_w, i32_w]; rfl
      refine done_ (by kernel_rfl) ?_
      go_wp2
      have V2 := Aside0.mk V1.out.drew
      have A2 := Aside0.mk (blk_drew A1.out)
      refine start_ (n := 4) (S := fun w' => St w [⟨34, .u64, num a⟩, ⟨34, .u64, z4⟩] w' ∧ w'.heap[g]? = some (.cells (arr .u64 (num x)) 34 (0, 0))) (ds := [3]) #[false, false, false, false] (by kernel_rfl) rfl rfl ⟨V2.out, A2.out⟩ (fun hHeld => ?_)
      refine take_ (i := 0) (N := some 13) (v := ?_) (a' := ?_) #[true, false, false, false] rfl rfl (by kernel_rfl) (fun _ _ _ h => h) (Or.inl ⟨by rfl, ?_⟩) hHeld ?_ ?_
      rotate_left
      · rintro w' ⟨s0, s1⟩
        refine (run_ld 34 (.tmp 4) (by rfl) g (by rfl) s1 Try.underlying34 (m := 4) (by kernel_rfl) (num_length _)).trans ?_; with_reducible rfl
      rotate_left
      · simp only [Act.put, OpenRow.s1, OpenRow.s2, OpenRow.s3, i64_w, i32_w]; rfl
      refine one_ (i := 1) (N := some 14) #[true, true, false, false] rfl rfl (by kernel_rfl) (by decide) (fun K hK => ?_)
      refine goes_ Try.func76 (by kernel_rfl) rfl #[] (by rfl) rfl rfl (by simp only [List.map_toArray, List.map_cons, List.map_nil] <;> rfl) ?_
      with_reducible refine (impl_imaginary.calls _).mono ?_
      rintro e w3 ⟨rfl, hb⟩
      refine ⟨_, rfl, ?_⟩
      have V5 := Aside0.mk (V2.out.step hb)
      have A5 := Aside0.mk (blk_below A2.out hb)
      clear hb
      refine hK.out _ _ ⟨V5.out, A5.out⟩ (fun hHeld => ?_)
      clear hK K
      refine norm_ (a' := ?_) ?_ ?_
      rotate_left
      · show Act.put _ (some 14) _ = _
        simp only [Act.put, OpenRow.s1, OpenRow.s2, OpenRow.s3, i64_w, i32_w]
        rfl
      refine one_ (i := 2) (N := some 15) #[true, true, true, false] rfl rfl (by kernel_rfl) (by decide) (fun K hK => ?_)
      refine goes_ Try.func38 (by kernel_rfl) rfl #[.agg (arr .u64 (num x)), .agg (arr .u64 (num imaginaryN))] (by rfl) rfl rfl (by simp only [List.map_toArray, List.map_cons, List.map_nil] <;> rfl) ?_
      with_reducible refine (HMi.out _).mono ?_
      rintro e w3 ⟨rfl, hb⟩
      refine ⟨_, rfl, ?_⟩
      have V6 := Aside0.mk (V5.out.step hb)
      have A6 := Aside0.mk (blk_below A5.out hb)
      clear hb
      refine hK.out _ _ ⟨V6.out, A6.out⟩ (fun hHeld => ?_)
      clear hK K
      refine norm_ (a' := ?_) ?_ ?_
      rotate_left
      · show Act.put _ (some 15) _ = _
        simp only [Act.put, OpenRow.s1, OpenRow.s2, OpenRow.s3, i64_w, i32_w]
        rfl
      refine last_ (i := 3) (N := none) #[true, true, true, true] rfl rfl (by kernel_rfl) (by decide) (fun K hK => ?_)
      refine st_step (by rfl) rfl 34 (.tmp 4) (.tmp 15) rfl g rfl rfl A6.out (m := 4) (by kernel_rfl) (num_length _) (by rw [num_length, num_length]) ?_
      intro w6 h1 h2 h3 h4
      have A7 := Aside0.mk h1
      have V7 := Aside0.mk (St.other V6.out h2 h3 HG.out)
      clear h1 h2 h3 h4
      refine hK.out _ _ ?_
      clear hK K
      refine done_ (by kernel_rfl) ?_
      go_wp2
      have V8 := Aside0.mk V7.out.drew
      have A8 := Aside0.mk (blk_drew A7.out)
      refine start_ (n := 5) (S := fun w' => St w [⟨34, .u64, num a⟩, ⟨34, .u64, z4⟩] w' ∧ w'.heap[g]? = some (.cells (arr .u64 (num z)) 34 (0, 0))) (ds := []) #[false, false, false, false, false] (by kernel_rfl) rfl rfl ⟨V8.out, A8.out⟩ (fun hHeld => ?_)
      refine take_ (i := 0) (N := some 16) (v := ?_) (a' := ?_) #[true, false, false, false, false] rfl rfl (by kernel_rfl) (fun _ _ _ h => h) (Or.inl ⟨by rfl, ?_⟩) hHeld ?_ ?_
      rotate_left
      · rintro w' ⟨s0, s1⟩
        refine (run_ld 34 (.tmp 4) (by rfl) g (by rfl) s1 Try.underlying34 (m := 4) (by kernel_rfl) (num_length _)).trans ?_; with_reducible rfl
      rotate_left
      · simp only [Act.put, OpenRow.s1, OpenRow.s2, OpenRow.s3, i64_w, i32_w]; rfl
      refine take_ (i := 1) (N := some 17) (v := ?_) (a' := ?_) #[true, true, false, false, false] rfl rfl (by kernel_rfl) (fun _ _ _ h => h) (Or.inl ⟨by rfl, ?_⟩) hHeld ?_ ?_
      rotate_left
      · rintro w' ⟨s0, s1⟩
        refine (run_ld 34 (.tmp 4) (by rfl) g (by rfl) s1 Try.underlying34 (m := 4) (by kernel_rfl) (num_length _)).trans ?_; with_reducible rfl
      rotate_left
      · simp only [Act.put, OpenRow.s1, OpenRow.s2, OpenRow.s3, i64_w, i32_w]; rfl
      refine take_ (i := 3) (N := some 19) (v := ?_) (a' := ?_) #[true, true, false, true, false] rfl rfl (by kernel_rfl) (fun _ _ _ h => h) (Or.inl ⟨by rfl, ?_⟩) hHeld ?_ ?_
      rotate_left
      · rintro w' ⟨s0, s1⟩
        refine (run_ld 34 (.tmp 1) (by rfl) w.heap.size (by rfl) (s0.blk 0 rfl) Try.underlying34 (m := 4) (by kernel_rfl) (num_length _)).trans ?_; with_reducible rfl
      rotate_left
      · simp only [Act.put, OpenRow.s1, OpenRow.s2, OpenRow.s3, i64_w, i32_w]; rfl
      refine one_ (i := 2) (N := some 18) #[true, true, true, true, false] rfl rfl (by kernel_rfl) (by decide) (fun K hK => ?_)
      refine goes_ Try.func38 (by kernel_rfl) rfl #[.agg (arr .u64 (num z)), .agg (arr .u64 (num z))] (by rfl) rfl rfl (by simp only [List.map_toArray, List.map_cons, List.map_nil] <;> rfl) ?_
      with_reducible refine (HMz.out _).mono ?_
      rintro e w3 ⟨rfl, hb⟩
      refine ⟨_, rfl, ?_⟩
      have V9 := Aside0.mk (V8.out.step hb)
      have A9 := Aside0.mk (blk_below A8.out hb)
      clear hb
      refine hK.out _ _ ⟨V9.out, A9.out⟩ (fun hHeld => ?_)
      clear hK K
      refine norm_ (a' := ?_) ?_ ?_
      rotate_left
      · show Act.put _ (some 18) _ = _
        simp only [Act.put, OpenRow.s1, OpenRow.s2, OpenRow.s3, i64_w, i32_w]
        rfl
      refine pure_ (i := 4) (N := some 20) (v := ?_) (a' := ?_) #[true, true, true, true, true] rfl rfl (by kernel_rfl) (fun _ _ _ h => h) (Or.inl ⟨by rfl, ?_⟩) ?_ ?_
      rotate_left
      · intro w'; go_simp; with_reducible rfl
      rotate_left
      · simp only [Act.put, OpenRow.s1, OpenRow.s2, OpenRow.s3, i64_w, i32_w]; rfl
      refine done_ (by kernel_rfl) ?_
      rcases Nat.mod_two_eq_zero_or_one z with ho | ho
      · have EV := Aside0.mk (show rtV a = z by unfold rtV; rw [← ER.out, if_neg (by omega)])
        have HO := Aside0.mk (fun W => impl_element_isOdd.calls z W)
        rw [decide_eq_false (by omega)] at HO
        clear ho
        go_wp2_with (first
          | ((with_reducible refine gate_dst (N := 22) rfl ?_); refine ld_arr rfl 34 (.tmp 4) rfl g rfl A9.out Try.underlying34 (m := 4) (by kernel_rfl) (num_length _) ?_)
          | ((with_reducible refine (HO.out _).mono ?_); rintro e w8 ⟨rfl, hb⟩; have V8 := Aside0.mk (V9.out.step hb); have A8 := Aside0.mk (blk_below A9.out hb); clear hb)
          | ((with_reducible refine gate_dst (N := 26) rfl ?_); refine ld_arr rfl 34 (.tmp 4) rfl g rfl A8.out Try.underlying34 (m := 4) (by kernel_rfl) (num_length _) ?_)
          | (refine st_arr rfl 34 (.tmp 2) (.tmp 26) rfl (w.heap.size + 1) (xs := num z) rfl rfl (V8.out.blk 1 rfl) (m := 4) (by kernel_rfl) (num_length _) (by rw [num_length]; rfl) ?_; intro w' h1 h2 h4 h3; have H1 := Aside0.mk h1; have V9 := Aside0.mk (V8.out.row 1 rfl h1 h2 h3); clear h1 h2 h3 h4))
        exact bodyPost_ret (results_ct Try.results43 _ _ (w.heap.size + 1) 34 _ (0, 0) _ rfl H1.out Try.underlying34 rfl (by rw [arr_size, num_length]; kernel_rfl)) rfl ⟨by rw [EV.out]; rfl, V9.out.below⟩
      · have EV := Aside0.mk (show rtV a = (PP - z) % PP by unfold rtV; rw [← ER.out, if_pos ho])
        have HO := Aside0.mk (fun W => impl_element_isOdd.calls z W)
        rw [decide_eq_true ho] at HO
        have HN := Aside0.mk (fun W => impl_element_negative.calls z W HXz.out)
        clear ho
        generalize (PP - z) % PP = y at *
        go_wp2_with (first
          | ((with_reducible refine gate_dst (N := 22) rfl ?_); refine ld_arr rfl 34 (.tmp 4) rfl g rfl A9.out Try.underlying34 (m := 4) (by kernel_rfl) (num_length _) ?_)
          | ((with_reducible refine (HO.out _).mono ?_); rintro e w8 ⟨rfl, hb⟩; have V8 := Aside0.mk (V9.out.step hb); have A8 := Aside0.mk (blk_below A9.out hb); clear hb)
          | ((with_reducible refine gate_dst (N := 24) rfl ?_); refine ld_arr rfl 34 (.tmp 4) rfl g rfl A8.out Try.underlying34 (m := 4) (by kernel_rfl) (num_length _) ?_)
          | ((with_reducible refine (HN.out _).mono ?_); rintro e w9 ⟨rfl, hb⟩; have V9 := Aside0.mk (V8.out.step hb); have A9 := Aside0.mk (blk_below A8.out hb); clear hb)
          | (refine st_arr rfl 34 (.tmp 4) (.tmp 25) rfl g (xs := num y) rfl rfl A9.out (m := 4) (by kernel_rfl) (num_length _) (by rw [num_length, num_length]) ?_; intro w10 h1 h2 h4 h3; have A10 := Aside0.mk h1; have V10 := Aside0.mk (St.other V9.out h2 h3 HG.out); clear h1 h2 h3 h4)
          | ((with_reducible refine gate_dst (N := 26) rfl ?_); refine ld_arr rfl 34 (.tmp 4) rfl g rfl A10.out Try.underlying34 (m := 4) (by kernel_rfl) (num_length _) ?_)
          | (refine st_arr rfl 34 (.tmp 2) (.tmp 26) rfl (w.heap.size + 1) (xs := num y) rfl rfl (V10.out.blk 1 rfl) (m := 4) (by kernel_rfl) (num_length _) (by rw [num_length]; rfl) ?_; intro w' h1 h2 h4 h3; have H1 := Aside0.mk h1; have V11 := Aside0.mk (V10.out.row 1 rfl h1 h2 h3); clear h1 h2 h3 h4))
        exact bodyPost_ret (results_ct Try.results43 _ _ (w.heap.size + 1) 34 _ (0, 0) _ rfl H1.out Try.underlying34 rfl (by rw [arr_size, num_length]; kernel_rfl)) rfl ⟨by rw [EV.out]; rfl, V11.out.below⟩
    · have hok : rtOk a = false := by rw [EO.out, decide_eq_false h1]
      rw [hok, if_neg (by decide), show num 0 = [0, 0, 0, 0] from by decide]
      rw [decide_eq_false h1] at hEz
      clear hok hq hp hi h0 h1 E1 EO
      go_enter Try.func43, Try.ntmps43
      go_wp2_with (first
        | ((with_reducible refine gate_dst (N := 5) rfl ?_); refine ld_arr rfl 34 (.tmp 1) rfl w.heap.size rfl (S.out.blk 0 rfl) Try.underlying34 (m := 4) (by kernel_rfl) (num_length _) ?_)
        | ((refine (HW.out _).mono ?_); rintro e w1 ⟨rfl, hb⟩; have S1 := Aside0.mk (S.out.step hb); clear hb)
        | (refine st_arr rfl 34 (.tmp 4) (.tmp 7) rfl w1.heap.size (xs := num x) rfl rfl (blk_new w1 (.cells (arr .u64 z4) 34)) (m := 4) (by kernel_rfl) (num_length _) (by rw [num_length]; rfl) ?_; intro w2 h1 h2 h4 h3; have A0 := Aside0.mk (blk_drew h1); have V0 := Aside0.mk (St.other (S1.out.alloc (.cells (arr .u64 z4) 34)) h2 h3 S1.out.size).drew; clear h1 h2 h3 h4))
      have HG := Aside0.mk S1.out.size
      generalize w1.heap.size = g at *
      clear S1 S
      go_wp2
      refine start_ (n := 5) (S := fun w' => St w [⟨34, .u64, num a⟩, ⟨34, .u64, z4⟩] w' ∧ w'.heap[g]? = some (.cells (arr .u64 (num x)) 34 (0, 0))) (ds := []) #[false, false, false, false, false] (by kernel_rfl) rfl rfl ⟨V0.out, A0.out⟩ (fun hHeld => ?_)
      refine take_ (i := 0) (N := some 8) (v := ?_) (a' := ?_) #[true, false, false, false, false] rfl rfl (by kernel_rfl) (fun _ _ _ h => h) (Or.inl ⟨by rfl, ?_⟩) hHeld ?_ ?_
      rotate_left
      · rintro w' ⟨s0, s1⟩
        refine (run_ld 34 (.tmp 4) (by rfl) g (by rfl) s1 Try.underlying34 (m := 4) (by kernel_rfl) (num_length _)).trans ?_; with_reducible rfl
      rotate_left
      · simp only [Act.put, OpenRow.s1, OpenRow.s2, OpenRow.s3, i64_w, i32_w]; rfl
      refine take_ (i := 1) (N := some 9) (v := ?_) (a' := ?_) #[true, true, false, false, false] rfl rfl (by kernel_rfl) (fun _ _ _ h => h) (Or.inl ⟨by rfl, ?_⟩) hHeld ?_ ?_
      rotate_left
      · rintro w' ⟨s0, s1⟩
        refine (run_ld 34 (.tmp 4) (by rfl) g (by rfl) s1 Try.underlying34 (m := 4) (by kernel_rfl) (num_length _)).trans ?_; with_reducible rfl
      rotate_left
      · simp only [Act.put, OpenRow.s1, OpenRow.s2, OpenRow.s3, i64_w, i32_w]; rfl
      refine take_ (i := 3) (N := some 11) (v := ?_) (a' := ?_) #[true, true, false, true, false] rfl rfl (by kernel_rfl) (fun _ _ _ h => h) (Or.inl ⟨by rfl, ?_⟩) hHeld ?_ ?_
      rotate_left
      · rintro w' ⟨s0, s1⟩
        refine (run_ld 34 (.tmp 1) (by rfl) w.heap.size (by rfl) (s0.blk 0 rfl) Try.underlying34 (m := 4) (by kernel_rfl) (num_length _)).trans ?_; with_reducible rfl
      rotate_left
      · simp only [Act.put, OpenRow.s1, OpenRow.s2, OpenRow.s3, i64_w, i32_w]; rfl
      refine one_ (i := 2) (N := some 10) #[true, true, true, true, false] rfl rfl (by kernel_rfl) (by decide) (fun K hK => ?_)
      refine goes_ Try.func38 (by kernel_rfl) rfl #[.agg (arr .u64 (num x)), .agg (arr .u64 (num x))] (by rfl) rfl rfl (by simp only [List.map_toArray, List.map_cons, List.map_nil] <;> rfl) ?_
      with_reducible refine (HMx.out _).mono ?_
      rintro e w3 ⟨rfl, hb⟩
      refine ⟨_, rfl, ?_⟩
      have V1 := Aside0.mk (V0.out.step hb)
      have A1 := Aside0.mk (blk_below A0.out hb)
      clear hb
      refine hK.out _ _ ⟨V1.out, A1.out⟩ (fun hHeld => ?_)
      clear hK K
      refine norm_ (a' := ?_) ?_ ?_
      rotate_left
      · show Act.put _ (some 10) _ = _
        simp only [Act.put, OpenRow.s1, OpenRow.s2, OpenRow.s3, i64_w, i32_w]
        rfl
      refine pure_ (i := 4) (N := some 12) (v := ?_) (a' := ?_) #[true, true, true, true, true] rfl rfl (by kernel_rfl) (fun _ _ _ h => h) (Or.inl ⟨by rfl, ?_⟩) ?_ ?_
      rotate_left
      · intro w'; go_simp; with_reducible rfl
      rotate_left
      · simp only [Act.put, OpenRow.s1, OpenRow.s2, OpenRow.s3, i64_w, i32_w]; rfl
      refine done_ (by kernel_rfl) ?_
      go_wp2
      have V2 := Aside0.mk V1.out.drew
      have A2 := Aside0.mk (blk_drew A1.out)
      refine start_ (n := 4) (S := fun w' => St w [⟨34, .u64, num a⟩, ⟨34, .u64, z4⟩] w' ∧ w'.heap[g]? = some (.cells (arr .u64 (num x)) 34 (0, 0))) (ds := [3]) #[false, false, false, false] (by kernel_rfl) rfl rfl ⟨V2.out, A2.out⟩ (fun hHeld => ?_)
      refine take_ (i := 0) (N := some 13) (v := ?_) (a' := ?_) #[true, false, false, false] rfl rfl (by kernel_rfl) (fun _ _ _ h => h) (Or.inl ⟨by rfl, ?_⟩) hHeld ?_ ?_
      rotate_left
      · rintro w' ⟨s0, s1⟩
        refine (run_ld 34 (.tmp 4) (by rfl) g (by rfl) s1 Try.underlying34 (m := 4) (by kernel_rfl) (num_length _)).trans ?_; with_reducible rfl
      rotate_left
      · simp only [Act.put, OpenRow.s1, OpenRow.s2, OpenRow.s3, i64_w, i32_w]; rfl
      refine one_ (i := 1) (N := some 14) #[true, true, false, false] rfl rfl (by kernel_rfl) (by decide) (fun K hK => ?_)
      refine goes_ Try.func76 (by kernel_rfl) rfl #[] (by rfl) rfl rfl (by simp only [List.map_toArray, List.map_cons, List.map_nil] <;> rfl) ?_
      with_reducible refine (impl_imaginary.calls _).mono ?_
      rintro e w3 ⟨rfl, hb⟩
      refine ⟨_, rfl, ?_⟩
      have V5 := Aside0.mk (V2.out.step hb)
      have A5 := Aside0.mk (blk_below A2.out hb)
      clear hb
      refine hK.out _ _ ⟨V5.out, A5.out⟩ (fun hHeld => ?_)
      clear hK K
      refine norm_ (a' := ?_) ?_ ?_
      rotate_left
      · show Act.put _ (some 14) _ = _
        simp only [Act.put, OpenRow.s1, OpenRow.s2, OpenRow.s3, i64_w, i32_w]
        rfl
      refine one_ (i := 2) (N := some 15) #[true, true, true, false] rfl rfl (by kernel_rfl) (by decide) (fun K hK => ?_)
      refine goes_ Try.func38 (by kernel_rfl) rfl #[.agg (arr .u64 (num x)), .agg (arr .u64 (num imaginaryN))] (by rfl) rfl rfl (by simp only [List.map_toArray, List.map_cons, List.map_nil] <;> rfl) ?_
      with_reducible refine (HMi.out _).mono ?_
      rintro e w3 ⟨rfl, hb⟩
      refine ⟨_, rfl, ?_⟩
      have V6 := Aside0.mk (V5.out.step hb)
      have A6 := Aside0.mk (blk_below A5.out hb)
      clear hb
      refine hK.out _ _ ⟨V6.out, A6.out⟩ (fun hHeld => ?_)
      clear hK K
      refine norm_ (a' := ?_) ?_ ?_
      rotate_left
      · show Act.put _ (some 15) _ = _
        simp only [Act.put, OpenRow.s1, OpenRow.s2, OpenRow.s3, i64_w, i32_w]
        rfl
      refine last_ (i := 3) (N := none) #[true, true, true, true] rfl rfl (by kernel_rfl) (by decide) (fun K hK => ?_)
      refine st_step (by rfl) rfl 34 (.tmp 4) (.tmp 15) rfl g rfl rfl A6.out (m := 4) (by kernel_rfl) (num_length _) (by rw [num_length, num_length]) ?_
      intro w6 h1 h2 h3 h4
      have A7 := Aside0.mk h1
      have V7 := Aside0.mk (St.other V6.out h2 h3 HG.out)
      clear h1 h2 h3 h4
      refine hK.out _ _ ?_
      clear hK K
      refine done_ (by kernel_rfl) ?_
      go_wp2
      have V8 := Aside0.mk V7.out.drew
      have A8 := Aside0.mk (blk_drew A7.out)
      refine start_ (n := 5) (S := fun w' => St w [⟨34, .u64, num a⟩, ⟨34, .u64, z4⟩] w' ∧ w'.heap[g]? = some (.cells (arr .u64 (num z)) 34 (0, 0))) (ds := []) #[false, false, false, false, false] (by kernel_rfl) rfl rfl ⟨V8.out, A8.out⟩ (fun hHeld => ?_)
      refine take_ (i := 0) (N := some 16) (v := ?_) (a' := ?_) #[true, false, false, false, false] rfl rfl (by kernel_rfl) (fun _ _ _ h => h) (Or.inl ⟨by rfl, ?_⟩) hHeld ?_ ?_
      rotate_left
      · rintro w' ⟨s0, s1⟩
        refine (run_ld 34 (.tmp 4) (by rfl) g (by rfl) s1 Try.underlying34 (m := 4) (by kernel_rfl) (num_length _)).trans ?_; with_reducible rfl
      rotate_left
      · simp only [Act.put, OpenRow.s1, OpenRow.s2, OpenRow.s3, i64_w, i32_w]; rfl
      refine take_ (i := 1) (N := some 17) (v := ?_) (a' := ?_) #[true, true, false, false, false] rfl rfl (by kernel_rfl) (fun _ _ _ h => h) (Or.inl ⟨by rfl, ?_⟩) hHeld ?_ ?_
      rotate_left
      · rintro w' ⟨s0, s1⟩
        refine (run_ld 34 (.tmp 4) (by rfl) g (by rfl) s1 Try.underlying34 (m := 4) (by kernel_rfl) (num_length _)).trans ?_; with_reducible rfl
      rotate_left
      · simp only [Act.put, OpenRow.s1, OpenRow.s2, OpenRow.s3, i64_w, i32_w]; rfl
      refine take_ (i := 3) (N := some 19) (v := ?_) (a' := ?_) #[true, true, false, true, false] rfl rfl (by kernel_rfl) (fun _ _ _ h => h) (Or.inl ⟨by rfl, ?_⟩) hHeld ?_ ?_
      rotate_left
      · rintro w' ⟨s0, s1⟩
        refine (run_ld 34 (.tmp 1) (by rfl) w.heap.size (by rfl) (s0.blk 0 rfl) Try.underlying34 (m := 4) (by kernel_rfl) (num_length _)).trans ?_; with_reducible rfl
      rotate_left
      · simp only [Act.put, OpenRow.s1, OpenRow.s2, OpenRow.s3, i64_w, i32_w]; rfl
      refine one_ (i := 2) (N := some 18) #[true, true, true, true, false] rfl rfl (by kernel_rfl) (by decide) (fun K hK => ?_)
      refine goes_ Try.func38 (by kernel_rfl) rfl #[.agg (arr .u64 (num z)), .agg (arr .u64 (num z))] (by rfl) rfl rfl (by simp only [List.map_toArray, List.map_cons, List.map_nil] <;> rfl) ?_
      with_reducible refine (HMz.out _).mono ?_
      rintro e w3 ⟨rfl, hb⟩
      refine ⟨_, rfl, ?_⟩
      have V9 := Aside0.mk (V8.out.step hb)
      have A9 := Aside0.mk (blk_below A8.out hb)
      clear hb
      refine hK.out _ _ ⟨V9.out, A9.out⟩ (fun hHeld => ?_)
      clear hK K
      refine norm_ (a' := ?_) ?_ ?_
      rotate_left
      · show Act.put _ (some 18) _ = _
        simp only [Act.put, OpenRow.s1, OpenRow.s2, OpenRow.s3, i64_w, i32_w]
        rfl
      refine pure_ (i := 4) (N := some 20) (v := ?_) (a' := ?_) #[true, true, true, true, true] rfl rfl (by kernel_rfl) (fun _ _ _ h => h) (Or.inl ⟨by rfl, ?_⟩) ?_ ?_
      rotate_left
      · intro w'; go_simp; with_reducible rfl
      rotate_left
      · simp only [Act.put, OpenRow.s1, OpenRow.s2, OpenRow.s3, i64_w, i32_w]; rfl
      refine done_ (by kernel_rfl) ?_
      go_wp2_with (first
        | (refine st_arr rfl 34 (.tmp 2) (.tmp 21) rfl (w.heap.size + 1) (xs := [0, 0, 0, 0]) rfl rfl (V9.out.blk 1 rfl) (m := 4) (by kernel_rfl) rfl rfl ?_; intro w' h1 h2 h4 h3; have H1 := Aside0.mk h1; have V10 := Aside0.mk (V9.out.row 1 rfl h1 h2 h3); clear h1 h2 h3 h4))
      exact bodyPost_ret (results_ct Try.results43 _ _ (w.heap.size + 1) 34 _ (0, 0) _ rfl H1.out Try.underlying34 rfl (by kernel_rfl)) rfl ⟨rfl, V10.out.below⟩
set_option maxHeartbeats 1000000 in
set_option maxRecDepth 100000 in
theorem impl_element_isZero.calls (x : Nat) (w : World) (hx : x < BB) :
    Calls Try.prog 44 #[.agg (arr .u64 (num x))] w fun e w' => e = .returned (.bool (decide (x = 0))) ∧ Below w.heap.size w w' := by
  have S := Aside0.mk ((St.start w).push rfl 34 .u64 (num x))
  have hd := num_zero x hx
  have LX := Aside0.mk (num_length x)
  rw [hd]
  clear hd hx
  generalize num x = xs at *
  have HE := fun W => (show (Op.equalIn 10000 34 (.agg (arr .u64 xs)) (.agg #[.int .u64 0, .int .u64 0, .int .u64 0, .int .u64 0])).run Try.prog W = _ from run_eq_arr 9998 34 32 4 .u64 .u64 xs [0, 0, 0, 0] Try.underlying34 (by kernel_rfl) (by kernel_rfl) Try.underlying32 LX.out rfl)
  go_enter Try.func44, Try.ntmps44
  go_wp2_with (first
    | ((with_reducible refine gate_dst (N := 3) rfl ?_); refine ld_arr rfl 34 (.tmp 1) rfl w.heap.size rfl (S.out.blk 0 rfl) Try.underlying34 (m := 4) (by kernel_rfl) LX.out ?_))
  go_ret
  exact ⟨rfl, S.out.below⟩
theorem build_pt (xs ys zs ts : List Int) (hx : xs.length = 4) (hy : ys.length = 4) (hz : zs.length = 4) (ht : ts.length = 4) (W : World) :
    (Instr.build 36 #[(0, .agg (arr .u64 xs)), (1, .agg (arr .u64 ys)), (2, .agg (arr .u64 zs)), (3, .agg (arr .u64 ts))]).run Try.prog W = .ok (.agg (arr .u64 (xs ++ (ys ++ (zs ++ ts))))) W := by
  match xs, ys, zs, ts, hx, hy, hz, ht with
  | [a0, a1, a2, a3], [b0, b1, b2, b3], [c0, c1, c2, c3], [d0, d1, d2, d3], _, _, _, _ =>
    simp only [arr, List.map_cons, List.map_nil, List.cons_append, List.nil_append]
    go_simp
set_option maxHeartbeats 1000000 in
set_option maxRecDepth 100000 in
theorem impl_pointAt.calls (x y : Nat) (w : World) (hx : x < BB) (hy : y < BB) :
    Calls Try.prog 46 #[.agg (arr .u64 (num x)), .agg (arr .u64 (num y))] w fun e w' => e = .returned (.agg (arr .u64 (ptL x y 1 (x * y % PP)))) ∧ Below w.heap.size w w' := by
  have HT := Aside0.mk (fun W => impl_element_times.calls x y W hx hy)
  have hbd := fun W => build_pt (num x) (num y) (num 1) (num (x * y % PP)) (num_length _) (num_length _) (num_length _) (num_length _) W
  have n1 : num 1 = [1, 0, 0, 0] := by decide
  have HPL := Aside0.mk (ptL_length x y 1 (x * y % PP))
  rw [n1] at hbd
  unfold ptL at HPL ⊢
  rw [n1] at HPL ⊢
  obtain ⟨ps, hps⟩ : ∃ ps, ps = num x ++ (num y ++ ([1, 0, 0, 0] ++ num (x * y % PP))) := ⟨_, rfl⟩
  rw [← hps] at hbd HPL ⊢
  have hbd2 : ∀ W, (Instr.build 36 #[(0, .agg (arr .u64 (num x))), (1, .agg (arr .u64 (num y))), (2, .agg #[.int .u64 1, .int .u64 0, .int .u64 0, .int .u64 0]), (3, .agg (arr .u64 (num (x * y % PP))))]).run Try.prog W = .ok (.agg (arr .u64 ps)) W := hbd
  clear hx hy hps hbd n1
  generalize x * y % PP = r at *
  have S := Aside0.mk ((((St.start w).push rfl 34 .u64 (num x)).push (World.size_alloc ..) 34 .u64 (num y)).push (by rw [World.size_alloc, World.size_alloc]; rfl) 36 .u64 z16)
  go_enter Try.func46, Try.ntmps46
  go_wp2
  refine abs_world (bs := [⟨34, .u64, num x⟩, ⟨34, .u64, num y⟩, ⟨36, .u64, z16⟩]) S.out ?_
  clear S
  intro W0 hS
  have T := Aside0.mk hS.drew
  clear hS
  refine start_ (n := 8) (S := fun w' => St w [⟨34, .u64, num x⟩, ⟨34, .u64, num y⟩, ⟨36, .u64, z16⟩] w') (ds := [7]) #[false, false, false, false, false, false, false, false] (by kernel_rfl) rfl rfl (T.out) (fun hHeld => ?_)
  refine pure_ (i := 2) (N := some 7) (v := ?_) (a' := ?_) #[false, false, true, false, false, false, false, false] rfl rfl (by kernel_rfl) (fun _ _ _ h => h) (Or.inl ⟨by rfl, ?_⟩) ?_ ?_
  rotate_left
  · intro w'; go_simp; with_reducible rfl
  rotate_left
  · simp only [Act.put, OpenRow.s1, OpenRow.s2, OpenRow.s3, i64_w, i32_w]; rfl
  refine take_ (i := 0) (N := some 5) (v := ?_) (a' := ?_) #[true, false, true, false, false, false, false, false] rfl rfl (by kernel_rfl) (fun _ _ _ h => h) (Or.inl ⟨by rfl, ?_⟩) hHeld ?_ ?_
  rotate_left
  · intro w' s0
    refine (run_ld 34 (.tmp 2) (by rfl) w.heap.size (by rfl) (s0.blk 0 rfl) Try.underlying34 (m := 4) (by kernel_rfl) (num_length _)).trans ?_; with_reducible rfl
  rotate_left
  · simp only [Act.put, OpenRow.s1, OpenRow.s2, OpenRow.s3, i64_w, i32_w]; rfl
  refine take_ (i := 1) (N := some 6) (v := ?_) (a' := ?_) #[true, true, true, false, false, false, false, false] rfl rfl (by kernel_rfl) (fun _ _ _ h => h) (Or.inl ⟨by rfl, ?_⟩) hHeld ?_ ?_
  rotate_left
  · intro w' s0
    refine (run_ld 34 (.tmp 3) (by rfl) (w.heap.size + 1) (by rfl) (s0.blk 1 rfl) Try.underlying34 (m := 4) (by kernel_rfl) (num_length _)).trans ?_; with_reducible rfl
  rotate_left
  · simp only [Act.put, OpenRow.s1, OpenRow.s2, OpenRow.s3, i64_w, i32_w]; rfl
  refine take_ (i := 3) (N := some 8) (v := ?_) (a' := ?_) #[true, true, true, true, false, false, false, false] rfl rfl (by kernel_rfl) (fun _ _ _ h => h) (Or.inl ⟨by rfl, ?_⟩) hHeld ?_ ?_
  rotate_left
  · intro w' s0
    refine (run_ld 34 (.tmp 2) (by rfl) w.heap.size (by rfl) (s0.blk 0 rfl) Try.underlying34 (m := 4) (by kernel_rfl) (num_length _)).trans ?_; with_reducible rfl
  rotate_left
  · simp only [Act.put, OpenRow.s1, OpenRow.s2, OpenRow.s3, i64_w, i32_w]; rfl
  refine take_ (i := 4) (N := some 9) (v := ?_) (a' := ?_) #[true, true, true, true, true, false, false, false] rfl rfl (by kernel_rfl) (fun _ _ _ h => h) (Or.inl ⟨by rfl, ?_⟩) hHeld ?_ ?_
  rotate_left
  · intro w' s0
    refine (run_ld 34 (.tmp 3) (by rfl) (w.heap.size + 1) (by rfl) (s0.blk 1 rfl) Try.underlying34 (m := 4) (by kernel_rfl) (num_length _)).trans ?_; with_reducible rfl
  rotate_left
  · simp only [Act.put, OpenRow.s1, OpenRow.s2, OpenRow.s3, i64_w, i32_w]; rfl
  refine one_ (i := 5) (N := some 10) #[true, true, true, true, true, true, false, false] rfl rfl (by kernel_rfl) (by decide) (fun K hK => ?_)
  refine goes_ Try.func38 (by kernel_rfl) rfl #[.agg (arr .u64 (num x)), .agg (arr .u64 (num y))] (by rfl) rfl rfl (by simp only [List.map_toArray, List.map_cons, List.map_nil] <;> rfl) ?_
  with_reducible refine (HT.out _).mono ?_
  rintro e w3 ⟨rfl, hb⟩
  refine ⟨_, rfl, ?_⟩
  have T1 := Aside0.mk (T.out.step hb)
  clear hb
  refine hK.out _ _ (T1.out) (fun hHeld => ?_)
  clear hK K
  refine norm_ (a' := ?_) ?_ ?_
  rotate_left
  · show Act.put _ (some 10) _ = _
    simp only [Act.put, OpenRow.s1, OpenRow.s2, OpenRow.s3, i64_w, i32_w]
    rfl
  refine pure_ (i := 6) (N := some 11) (v := ?_) (a' := ?_) #[true, true, true, true, true, true, true, false] rfl rfl (by kernel_rfl) (fun _ _ _ h => h) (Or.inl ⟨by rfl, ?_⟩) ?_ ?_
  rotate_left
  · intro w'
    refine (run_bd rfl _ (by simp only [List.map_toArray, List.map_cons, List.map_nil] <;> rfl) (hbd2 _)).trans ?_; with_reducible rfl
  rotate_left
  · simp only [Act.put, OpenRow.s1, OpenRow.s2, OpenRow.s3, i64_w, i32_w]; rfl
  refine last_ (i := 7) (N := none) #[true, true, true, true, true, true, true, true] rfl rfl (by kernel_rfl) (by decide) (fun K hK => ?_)
  refine st_step (by rfl) rfl 36 (.tmp 4) (.tmp 11) rfl (w.heap.size + 2) (xs := ps) rfl rfl (T1.out.blk 2 rfl) (m := 16) (by kernel_rfl) HPL.out (by rw [HPL.out]; rfl) ?_
  intro w6 h1 h2 h3 h4
  have H1 := Aside0.mk h1
  have T2 := Aside0.mk (T1.out.row 2 rfl h1 h2 h3)
  clear h1 h2 h3 h4
  refine hK.out _ _ ?_
  clear hK K
  refine done_ (by kernel_rfl) ?_
  go_wp2
  exact bodyPost_ret (results_cell_row Try.results46 _ _ (w.heap.size + 2) 36 _ (0, 0) _ rfl H1.out Try.underlying36 rfl (by rw [arr_size, HPL.out]; kernel_rfl)) rfl ⟨rfl, T2.out.below⟩
set_option maxHeartbeats 4000000 in
set_option maxRecDepth 100000 in
theorem impl_pointOf.calls (A0 : Option Addr) (c0 : Nat) (l : List Int) (w : World) (hr0 : Kd.C (Kd.int .u8) w A0 l.length l) (hc0 : l.length ≤ c0) (ho : okB l = true) :
    Calls Try.prog 15 #[.slice A0 l.length c0] w fun e w' => e = .returned (.tuple #[.agg (arr .u64 (ptV l)), .bool (okP l)]) ∧ Below w.heap.size w w' := by
  have S := Aside0.mk ((St.start w).push rfl 36 .u64 zL)
  by_cases hl : l.length = 32
  · have hPB : PP < BB := by decide
    have HB0 := Aside0.mk (Kd.C_below hr0 (below_alloc (Below.refl w.heap.size w) (.cells (arr .u64 zL) 36)))
    have HCl := Aside0.mk (fun W (hW : Kd.C (Kd.int .u8) W A0 l.length l) => (slices_Clone_byte_byte.calls A0 c0 l l W hW hc0 (by unfold slices_Clone_byte_byte.f; rw [if_pos (by omega)])))
    rw [hl] at HCl HB0
    have hll : (l.length : Int) = 32 := by omega
    have HLW := Aside0.mk hl
    have OKL := Aside0.mk (lowB_ok (okB_ok l ho))
    have hbb := okB_ok l ho (l.getD 31 0) (by rw [List.getD_eq_getElem?_getD, List.getElem?_eq_getElem (by omega)]; exact List.getElem_mem _)
    have HIE := Aside0.mk (fun g c W (hW : Kd.C (Kd.int .u8) W (some ⟨g, 0, none⟩) (lowB l).length (lowB l)) (hc : (lowB l).length ≤ c) => impl_isElement.calls (some ⟨g, 0, none⟩) c (lowB l) (isEl (lowB l)) W hW hc (by
      unfold impl_isElement.f
      rw [if_pos (by rw [okB, List.all_eq_true]; intro x hx; have := OKL.out x hx; rw [decide_eq_true this.1, decide_eq_true (show x < 256 from this.2)]; rfl)]))
    have HEO := Aside0.mk (fun g c W (hW : Kd.C (Kd.int .u8) W (some ⟨g, 0, none⟩) (lowB l).length (lowB l)) => impl_elementOf.calls (some ⟨g, 0, none⟩) c (lowB l) W hW (by rw [lowB_length]; omega) OKL.out)
    have HLS := Aside0.mk (show l.set 31 (l.getD 31 0 % 128) = lowB l from rfl)
    have sgb : decide (128 ≤ l.getD 31 0) = sgB l := rfl
    rw [lowB_length, hl] at HIE HEO
    obtain ⟨b, hb_⟩ : ∃ b, b = l.getD 31 0 := ⟨_, rfl⟩
    obtain ⟨lo, hlo⟩ : ∃ lo, lo = b % 128 := ⟨_, rfl⟩
    have HBD := Aside0.mk hb_
    rw [← hb_] at sgb hbb
    rw [← hb_, ← hlo] at HLS
    have han : bits .andNot .u8 b 128 = lo := by rw [hlo]; exact and_not b hbb.1 hbb.2
    have b0 := hbb.1
    have b1 : b < 256 := hbb.2
    have lo0 : 0 ≤ lo := by omega
    have lo1 : lo < 128 := by omega
    have HLEN := Aside0.mk hl
    clear hb_ hlo hbb
    by_cases he : isEl (lowB l) = true
    · have hy0 : bval (lowB l) < PP := by
        have := he
        unfold isEl at this
        rw [Bool.and_eq_true, decide_eq_true_iff] at this
        exact of_decide_eq_true this.2
      have hYB : pYv l < BB := Nat.lt_trans hy0 hPB
      have hPY : bval (lowB l) = pYv l := rfl
      rw [he] at HIE
      rw [hPY] at HEO
      have HYY := Aside0.mk (fun W => impl_element_times.calls (pYv l) (pYv l) W hYB hYB)
      have HC := Aside0.mk (fun W => (show Calls Try.prog 39 #[] W fun e w' => e = .returned (.agg (arr .u64 (num cuN))) ∧ Below W.heap.size W w' from impl_curve.calls W))
      have HM := Aside0.mk (fun W => impl_element_times.calls cuN (pQ (pYv l)) W (by decide) (Nat.lt_trans (pQ_lt _) hPB))
      have HP := Aside0.mk (fun W => (show Calls Try.prog 40 #[.agg (arr .u64 (num (pM (pYv l)))), .agg #[.int .u64 1, .int .u64 0, .int .u64 0, .int .u64 0]] W fun e w' => e = .returned (.agg (arr .u64 (num (pD (pYv l))))) ∧ Below W.heap.size W w' from by
        have h := impl_element_plus.calls (pM (pYv l)) 1 W (pM_lt _) (by decide)
        rw [show num 1 = [1, 0, 0, 0] from by decide] at h
        exact h))
      have HN := Aside0.mk (fun W => (show Calls Try.prog 41 #[.agg (arr .u64 (num (pQ (pYv l)))), .agg #[.int .u64 1, .int .u64 0, .int .u64 0, .int .u64 0]] W fun e w' => e = .returned (.agg (arr .u64 (num (pN (pYv l))))) ∧ Below W.heap.size W w' from by
        have h := impl_element_minus.calls (pQ (pYv l)) 1 W (pQ_lt _) (by decide)
        rw [show num 1 = [1, 0, 0, 0] from by decide] at h
        exact h))
      have HI := Aside0.mk (fun W => impl_element_inverse.calls (pD (pYv l)) W (Nat.lt_trans (pD_lt _) hPB))
      have HT := Aside0.mk (fun W => impl_element_times.calls (pN (pYv l)) (pI (pYv l)) W (Nat.lt_trans (pN_lt _) hPB) (Nat.lt_trans (pI_lt _) hPB))
      have HR := Aside0.mk (fun W => impl_element_root.calls (pXX (pYv l)) W (pXX_lt _))
      have HZ := Aside0.mk (fun W => impl_element_isZero.calls (rtX (pYv l)) W (Nat.lt_trans (rtX_lt _) hPB))
      have HNG := Aside0.mk (fun W => impl_element_negative.calls (rtX (pYv l)) W (rtX_lt _))
      have HA := Aside0.mk (fun x (hx : x < PP) W => impl_pointAt.calls x (pYv l) W (Nat.lt_trans hx hPB) hYB)
      have HX0 := Aside0.mk (rtX_lt (pYv l))
      rw [show pYv l * pYv l % PP = pQ (pYv l) from rfl] at HYY
      rw [show cuN * pQ (pYv l) % PP = pM (pYv l) from rfl] at HM
      rw [show pD (pYv l) ^ (PP - 2) % PP = pI (pYv l) from rfl] at HI
      rw [show pN (pYv l) * pI (pYv l) % PP = pXX (pYv l) from rfl] at HT
      rw [show (if rtOk (pXX (pYv l)) = true then rtV (pXX (pYv l)) else 0) = rtX (pYv l) from rfl] at HR
      have F1 := Aside0.mk (fun h => okP_rt (l := l) h)
      have F2 := Aside0.mk (fun h h2 => okP_zero (l := l) h h2)
      have F3 := Aside0.mk (fun h h2 => okP_true (l := l) he h h2)
      have F4 := Aside0.mk (fun (h : okP l = true) x hx => ptV_yes (l := l) h x hx)
      have F5 := Aside0.mk (fun h => pXv_sg (l := l) h)
      have F6 := Aside0.mk (fun h => pXv_no (l := l) h)
      have F7 := Aside0.mk (fun h => ptV_no (l := l) h)
      clear he hy0 hPY hYB hPB hc0 hr0 ho
      generalize rtX (pYv l) = x0 at *
      generalize rtOk (pXX (pYv l)) = ok at *
      generalize pXX (pYv l) = xx at *
      generalize pI (pYv l) = ii at *
      generalize pN (pYv l) = nn at *
      generalize pD (pYv l) = dd at *
      generalize pM (pYv l) = m at *
      generalize pQ (pYv l) = q at *
      generalize pYv l = y at *
      generalize sgB l = sg at *
      go_enter Try.func15, Try.ntmps15
      go_wp2_with (first
        | ((refine (HCl.out _ HB0.out).mono ?_); rintro e w1 ⟨v, rfl, hR, hb⟩; obtain ⟨go, co, eo, gb, gl, _, HGc⟩ := Kd.R_form hR (by omega); rw [HLW.out] at eo; subst eo; have GB := Aside0.mk gb; rw [World.size_alloc] at GB; have S1 := Aside0.mk (S.out.step hb); have hx0 : w1.cell? ⟨go, 31, none⟩ = some (.int .u8 b) := (by rw [HBD.out]; exact (Kd.R_celln 0 hR (31 : Int) (by omega) (by omega)).1); have hf0 : w1.frozen? ⟨go, 31, none⟩ = false := (Kd.R_celln 0 hR (31 : Int) (by omega) (by omega)).2; have HP31 : Aside0 ((Kd.int .u8).R 5 (w1.setCell ⟨go, 31, none⟩ (.int .u8 lo)) (w.alloc (.cells (arr .u64 zL) 36)).heap.size (fun _ => True) (.slice (some ⟨go, 0, none⟩) 32 co) (lowB l)) := ⟨(by rw [← HLS.out]; exact (Kd.R_putg hR (31 : Int) lo).1)⟩; have HC3 := Aside0.mk (Kd.R_reads' HP31.out).2.2; have HCO := Aside0.mk (Kd.R_reads' HP31.out).2.1; rw [lowB_length, HLW.out] at HC3; clear hb hR gb gl HGc)
        | ((with_reducible refine (HIE.out _ _ _ HC3.out HCO.out).mono ?_); rintro e w2 ⟨rfl, hb⟩; have S2 := Aside0.mk ((St_far S1.out go 31 _ GB.out).step hb); have HC4 := Aside0.mk (Kd.C_below HC3.out hb); clear hb)
        | ((with_reducible refine (HEO.out _ _ _ HC4.out).mono ?_); rintro e w3 ⟨rfl, hb⟩; have S3 := Aside0.mk (S2.out.step hb); clear hb)
        | (refine st_arr rfl 34 (.tmp 6) (.tmp 31) rfl w3.heap.size (xs := num y) rfl rfl (blk_new w3 (.cells (arr .u64 z4) 34)) (m := 4) (by kernel_rfl) (num_length _) (by rw [num_length]; rfl) ?_; intro w4 h1 h2 h4 h3; have A4 := Aside0.mk h1; have S4 := Aside0.mk (St.other (S3.out.alloc (.cells (arr .u64 z4) 34)) h2 h3 S3.out.size); clear h1 h2 h3 h4)
        | ((with_reducible refine gate_dst (N := 32) rfl ?_); refine ld_arr rfl 34 (.tmp 6) rfl w3.heap.size rfl A4.out Try.underlying34 (m := 4) (by kernel_rfl) (num_length _) ?_)
        | ((with_reducible refine gate_dst (N := 33) rfl ?_); refine ld_arr rfl 34 (.tmp 6) rfl w3.heap.size rfl A4.out Try.underlying34 (m := 4) (by kernel_rfl) (num_length _) ?_)
        | ((with_reducible refine (HYY.out _).mono ?_); rintro e w5 ⟨rfl, hb⟩; have S5 := Aside0.mk (S4.out.step hb); have A5 := Aside0.mk (blk_below A4.out hb); clear hb)
        | (refine st_arr rfl 34 (.tmp 7) (.tmp 34) rfl w5.heap.size (xs := num q) rfl rfl (blk_new w5 (.cells (arr .u64 z4) 34)) (m := 4) (by kernel_rfl) (num_length _) (by rw [num_length]; rfl) ?_; intro w6 h1 h2 h4 h3; have B6 := Aside0.mk h1; have S6 := Aside0.mk (St.other (S5.out.alloc (.cells (arr .u64 z4) 34)) h2 h3 S5.out.size); have A6 := Aside0.mk ((h2 _ (ne_of_blk A5.out)).trans (blk_alloc A5.out _)); clear h1 h2 h3 h4))
      have E6 := Aside0.mk S3.out.size
      generalize w3.heap.size = g6 at *
      generalize w5.heap.size = g7 at *
      have U := Aside0.mk S6.out.drew
      have A := Aside0.mk (blk_drew A6.out)
      have B := Aside0.mk (blk_drew B6.out)
      clear S1 S2 S3 S4 S5 S6 A4 A5 A6 B6 HCl HIE HEO HYY HP31 HC3 HC4 HCO GB hx0 hf0
      refine start_ (n := 7) (S := fun w' => St w [⟨36, .u64, zL⟩] w' ∧ w'.heap[g6]? = some (.cells (arr .u64 (num y)) 34 (0, 0)) ∧ w'.heap[g7]? = some (.cells (arr .u64 (num q)) 34 (0, 0))) (ds := []) #[false, false, false, false, false, false, false] (by kernel_rfl) rfl rfl ⟨U.out, A.out, B.out⟩ (fun hHeld => ?_)
      refine pure_ (i := 3) (N := some 38) (v := ?_) (a' := ?_) #[false, false, false, true, false, false, false] rfl rfl (by kernel_rfl) (fun _ _ _ h => h) (Or.inl ⟨by rfl, ?_⟩) ?_ ?_
      rotate_left
      · intro w'; go_simp; with_reducible rfl
      rotate_left
      · simp only [Act.put, OpenRow.s1, OpenRow.s2, OpenRow.s3, i64_w, i32_w]; rfl
      refine take_ (i := 1) (N := some 36) (v := ?_) (a' := ?_) #[false, true, false, true, false, false, false] rfl rfl (by kernel_rfl) (fun _ _ _ h => h) (Or.inl ⟨by rfl, ?_⟩) hHeld ?_ ?_
      rotate_left
      · rintro w' ⟨s0, s1, s2⟩
        refine (run_ld 34 (.tmp 7) (by rfl) g7 (by rfl) s2 Try.underlying34 (m := 4) (by kernel_rfl) (num_length _)).trans ?_; with_reducible rfl
      rotate_left
      · simp only [Act.put, OpenRow.s1, OpenRow.s2, OpenRow.s3, i64_w, i32_w]; rfl
      refine join_ (σ := Nat) 1 #[true, true, true, true, true, true, false] (fun s_ => [(35, .agg (arr .u64 (num cuN))), (37, .agg (arr .u64 (num m))), (39, .agg (arr .u64 (num dd))), (8, .pointer (some ⟨s_, 0, none⟩))]) (fun s_ w' => (St w [⟨36, .u64, zL⟩] w') ∧ (w'.heap[g6]? = some (.cells (arr .u64 (num y)) 34 (0, 0))) ∧ (w'.heap[g7]? = some (.cells (arr .u64 (num q)) 34 (0, 0))) ∧ w'.heap[s_]? = some (.cells (arr .u64 z4) 34 (0, 0)) ∧ w.heap.size + 1 ≤ s_ ∧ g6 ≠ s_ ∧ g7 ≠ s_) ?_ ?_
      rotate_left
      · intro hCont
        refine two_ (i := 0) (j := 5) (Ni := some 35) (Nj := some 8) #[true, true, false, true, false, false, false] #[false, true, false, true, false, true, false] rfl rfl rfl rfl (by kernel_rfl) (by decide) (by decide) (fun K hK => ?_) (fun K hK => ?_)
        · skip
          refine goes_ Try.func39 (by kernel_rfl) rfl #[] (by rfl) rfl rfl (by simp only [List.map_toArray, List.map_cons, List.map_nil] <;> rfl) ?_
          with_reducible refine (HC.out _).mono ?_
          rintro e w3 ⟨rfl, hb⟩
          refine ⟨_, rfl, ?_⟩
          have U_0 := Aside0.mk (U.out.step hb)
          have A_0 := Aside0.mk (blk_below A.out hb)
          have B_0 := Aside0.mk (blk_below B.out hb)
          clear hb
          refine hK.out _ _ ⟨U_0.out, A_0.out, B_0.out⟩ (fun hHeld => ?_)
          clear hK K
          refine norm_ (a' := ?_) ?_ ?_
          rotate_left
          · show Act.put _ (some 35) _ = _
            simp only [Act.put, OpenRow.s1, OpenRow.s2, OpenRow.s3, i64_w, i32_w]
            rfl
          refine two_ (i := 2) (j := 5) (Ni := some 37) (Nj := some 8) #[true, true, true, true, false, false, false] #[true, true, false, true, false, true, false] rfl rfl rfl rfl (by kernel_rfl) (by decide) (by decide) (fun K hK => ?_) (fun K hK => ?_)
          · skip
            refine goes_ Try.func38 (by kernel_rfl) rfl #[.agg (arr .u64 (num cuN)), .agg (arr .u64 (num q))] (by rfl) rfl rfl (by simp only [List.map_toArray, List.map_cons, List.map_nil] <;> rfl) ?_
            with_reducible refine (HM.out _).mono ?_
            rintro e w3 ⟨rfl, hb⟩
            refine ⟨_, rfl, ?_⟩
            have U_0_2 := Aside0.mk (U_0.out.step hb)
            have A_0_2 := Aside0.mk (blk_below A_0.out hb)
            have B_0_2 := Aside0.mk (blk_below B_0.out hb)
            clear hb
            refine hK.out _ _ ⟨U_0_2.out, A_0_2.out, B_0_2.out⟩ (fun hHeld => ?_)
            clear hK K
            refine norm_ (a' := ?_) ?_ ?_
            rotate_left
            · show Act.put _ (some 37) _ = _
              simp only [Act.put, OpenRow.s1, OpenRow.s2, OpenRow.s3, i64_w, i32_w]
              rfl
            refine two_ (i := 4) (j := 5) (Ni := some 39) (Nj := some 8) #[true, true, true, true, true, false, false] #[true, true, true, true, false, true, false] rfl rfl rfl rfl (by kernel_rfl) (by decide) (by decide) (fun K hK => ?_) (fun K hK => ?_)
            · skip
              refine goes_ Try.func40 (by kernel_rfl) rfl #[.agg (arr .u64 (num m)), .agg #[.int .u64 1, .int .u64 0, .int .u64 0, .int .u64 0]] (by rfl) rfl rfl (by simp only [List.map_toArray, List.map_cons, List.map_nil] <;> rfl) ?_
              with_reducible refine (HP.out _).mono ?_
              rintro e w3 ⟨rfl, hb⟩
              refine ⟨_, rfl, ?_⟩
              have U_0_2_4 := Aside0.mk (U_0_2.out.step hb)
              have A_0_2_4 := Aside0.mk (blk_below A_0_2.out hb)
              have B_0_2_4 := Aside0.mk (blk_below B_0_2.out hb)
              clear hb
              refine hK.out _ _ ⟨U_0_2_4.out, A_0_2_4.out, B_0_2_4.out⟩ (fun hHeld => ?_)
              clear hK K
              refine norm_ (a' := ?_) ?_ ?_
              rotate_left
              · show Act.put _ (some 39) _ = _
                simp only [Act.put, OpenRow.s1, OpenRow.s2, OpenRow.s3, i64_w, i32_w]
                rfl
              refine one_ (i := 5) (N := some 8) #[true, true, true, true, true, true, false] rfl rfl (by kernel_rfl) (by decide) (fun K hK => ?_)
              refine value_ (w1 := ?_) (v := ?_) (by rfl) rfl ?_ ?_
              rotate_left 2
              · go_simp
                constructor
                · rfl
                · rfl
              have U_0_2_4_5 := Aside0.mk (U_0_2_4.out.alloc (.cells (arr .u64 z4) 34))
              have A_0_2_4_5 := Aside0.mk (blk_alloc A_0_2_4.out (.cells (arr .u64 z4) 34))
              have B_0_2_4_5 := Aside0.mk (blk_alloc B_0_2_4.out (.cells (arr .u64 z4) 34))
              have G5_0_2_4_5 := Aside0.mk (U_0_2_4.out.new (.cells (arr .u64 z4) 34))
              have E5 := Aside0.mk U_0_2_4.out.size
              have M5_0 := Aside0.mk (ne_of_blk A_0_2_4.out)
              have M5_1 := Aside0.mk (ne_of_blk B_0_2_4.out)
              refine hK.out _ _ ⟨U_0_2_4_5.out, A_0_2_4_5.out, B_0_2_4_5.out⟩ (fun hHeld => ?_)
              clear hK K
              refine norm_ (a' := ?_) ?_ ?_
              rotate_left
              · show Act.put _ (some 8) _ = _
                simp only [Act.put, OpenRow.s1, OpenRow.s2, OpenRow.s3, i64_w, i32_w]
                rfl
              exact norm_ (by simp only [putAll, Act.put, List.setIfInBounds_toArray, List.set_cons_zero, List.set_cons_succ] <;> rfl) (hCont _ _ ⟨U_0_2_4_5.out, A_0_2_4_5.out, B_0_2_4_5.out, G5_0_2_4_5.out, E5.out, M5_0.out, M5_1.out⟩)
            · skip
              refine value_ (w1 := ?_) (v := ?_) (by rfl) rfl ?_ ?_
              rotate_left 2
              · go_simp
                constructor
                · rfl
                · rfl
              have U_0_2_5 := Aside0.mk (U_0_2.out.alloc (.cells (arr .u64 z4) 34))
              have A_0_2_5 := Aside0.mk (blk_alloc A_0_2.out (.cells (arr .u64 z4) 34))
              have B_0_2_5 := Aside0.mk (blk_alloc B_0_2.out (.cells (arr .u64 z4) 34))
              have G5_0_2_5 := Aside0.mk (U_0_2.out.new (.cells (arr .u64 z4) 34))
              have E5 := Aside0.mk U_0_2.out.size
              have M5_0 := Aside0.mk (ne_of_blk A_0_2.out)
              have M5_1 := Aside0.mk (ne_of_blk B_0_2.out)
              refine hK.out _ _ ⟨U_0_2_5.out, A_0_2_5.out, B_0_2_5.out⟩ (fun hHeld => ?_)
              clear hK K
              refine norm_ (a' := ?_) ?_ ?_
              rotate_left
              · show Act.put _ (some 8) _ = _
                simp only [Act.put, OpenRow.s1, OpenRow.s2, OpenRow.s3, i64_w, i32_w]
                rfl
              refine one_ (i := 4) (N := some 39) #[true, true, true, true, true, true, false] rfl rfl (by kernel_rfl) (by decide) (fun K hK => ?_)
              refine goes_ Try.func40 (by kernel_rfl) rfl #[.agg (arr .u64 (num m)), .agg #[.int .u64 1, .int .u64 0, .int .u64 0, .int .u64 0]] (by rfl) rfl rfl (by simp only [List.map_toArray, List.map_cons, List.map_nil] <;> rfl) ?_
              with_reducible refine (HP.out _).mono ?_
              rintro e w3 ⟨rfl, hb⟩
              refine ⟨_, rfl, ?_⟩
              have U_0_2_5_4 := Aside0.mk (U_0_2_5.out.step hb)
              have A_0_2_5_4 := Aside0.mk (blk_below A_0_2_5.out hb)
              have B_0_2_5_4 := Aside0.mk (blk_below B_0_2_5.out hb)
              have G5_0_2_5_4 := Aside0.mk (blk_below G5_0_2_5.out hb)
              clear hb
              refine hK.out _ _ ⟨U_0_2_5_4.out, A_0_2_5_4.out, B_0_2_5_4.out⟩ (fun hHeld => ?_)
              clear hK K
              refine norm_ (a' := ?_) ?_ ?_
              rotate_left
              · show Act.put _ (some 39) _ = _
                simp only [Act.put, OpenRow.s1, OpenRow.s2, OpenRow.s3, i64_w, i32_w]
                rfl
              exact norm_ (by simp only [putAll, Act.put, List.setIfInBounds_toArray, List.set_cons_zero, List.set_cons_succ] <;> rfl) (hCont _ _ ⟨U_0_2_5_4.out, A_0_2_5_4.out, B_0_2_5_4.out, G5_0_2_5_4.out, E5.out, M5_0.out, M5_1.out⟩)
          · skip
            refine value_ (w1 := ?_) (v := ?_) (by rfl) rfl ?_ ?_
            rotate_left 2
            · go_simp
              constructor
              · rfl
              · rfl
            have U_0_5 := Aside0.mk (U_0.out.alloc (.cells (arr .u64 z4) 34))
            have A_0_5 := Aside0.mk (blk_alloc A_0.out (.cells (arr .u64 z4) 34))
            have B_0_5 := Aside0.mk (blk_alloc B_0.out (.cells (arr .u64 z4) 34))
            have G5_0_5 := Aside0.mk (U_0.out.new (.cells (arr .u64 z4) 34))
            have E5 := Aside0.mk U_0.out.size
            have M5_0 := Aside0.mk (ne_of_blk A_0.out)
            have M5_1 := Aside0.mk (ne_of_blk B_0.out)
            refine hK.out _ _ ⟨U_0_5.out, A_0_5.out, B_0_5.out⟩ (fun hHeld => ?_)
            clear hK K
            refine norm_ (a' := ?_) ?_ ?_
            rotate_left
            · show Act.put _ (some 8) _ = _
              simp only [Act.put, OpenRow.s1, OpenRow.s2, OpenRow.s3, i64_w, i32_w]
              rfl
            refine one_ (i := 2) (N := some 37) #[true, true, true, true, false, true, false] rfl rfl (by kernel_rfl) (by decide) (fun K hK => ?_)
            refine goes_ Try.func38 (by kernel_rfl) rfl #[.agg (arr .u64 (num cuN)), .agg (arr .u64 (num q))] (by rfl) rfl rfl (by simp only [List.map_toArray, List.map_cons, List.map_nil] <;> rfl) ?_
            with_reducible refine (HM.out _).mono ?_
            rintro e w3 ⟨rfl, hb⟩
            refine ⟨_, rfl, ?_⟩
            have U_0_5_2 := Aside0.mk (U_0_5.out.step hb)
            have A_0_5_2 := Aside0.mk (blk_below A_0_5.out hb)
            have B_0_5_2 := Aside0.mk (blk_below B_0_5.out hb)
            have G5_0_5_2 := Aside0.mk (blk_below G5_0_5.out hb)
            clear hb
            refine hK.out _ _ ⟨U_0_5_2.out, A_0_5_2.out, B_0_5_2.out⟩ (fun hHeld => ?_)
            clear hK K
            refine norm_ (a' := ?_) ?_ ?_
            rotate_left
            · show Act.put _ (some 37) _ = _
              simp only [Act.put, OpenRow.s1, OpenRow.s2, OpenRow.s3, i64_w, i32_w]
              rfl
            refine one_ (i := 4) (N := some 39) #[true, true, true, true, true, true, false] rfl rfl (by kernel_rfl) (by decide) (fun K hK => ?_)
            refine goes_ Try.func40 (by kernel_rfl) rfl #[.agg (arr .u64 (num m)), .agg #[.int .u64 1, .int .u64 0, .int .u64 0, .int .u64 0]] (by rfl) rfl rfl (by simp only [List.map_toArray, List.map_cons, List.map_nil] <;> rfl) ?_
            with_reducible refine (HP.out _).mono ?_
            rintro e w3 ⟨rfl, hb⟩
            refine ⟨_, rfl, ?_⟩
            have U_0_5_2_4 := Aside0.mk (U_0_5_2.out.step hb)
            have A_0_5_2_4 := Aside0.mk (blk_below A_0_5_2.out hb)
            have B_0_5_2_4 := Aside0.mk (blk_below B_0_5_2.out hb)
            have G5_0_5_2_4 := Aside0.mk (blk_below G5_0_5_2.out hb)
            clear hb
            refine hK.out _ _ ⟨U_0_5_2_4.out, A_0_5_2_4.out, B_0_5_2_4.out⟩ (fun hHeld => ?_)
            clear hK K
            refine norm_ (a' := ?_) ?_ ?_
            rotate_left
            · show Act.put _ (some 39) _ = _
              simp only [Act.put, OpenRow.s1, OpenRow.s2, OpenRow.s3, i64_w, i32_w]
              rfl
            exact norm_ (by simp only [putAll, Act.put, List.setIfInBounds_toArray, List.set_cons_zero, List.set_cons_succ] <;> rfl) (hCont _ _ ⟨U_0_5_2_4.out, A_0_5_2_4.out, B_0_5_2_4.out, G5_0_5_2_4.out, E5.out, M5_0.out, M5_1.out⟩)
        · skip
          refine value_ (w1 := ?_) (v := ?_) (by rfl) rfl ?_ ?_
          rotate_left 2
          · go_simp
            constructor
            · rfl
            · rfl
          have U_5 := Aside0.mk (U.out.alloc (.cells (arr .u64 z4) 34))
          have A_5 := Aside0.mk (blk_alloc A.out (.cells (arr .u64 z4) 34))
          have B_5 := Aside0.mk (blk_alloc B.out (.cells (arr .u64 z4) 34))
          have G5_5 := Aside0.mk (U.out.new (.cells (arr .u64 z4) 34))
          have E5 := Aside0.mk U.out.size
          have M5_0 := Aside0.mk (ne_of_blk A.out)
          have M5_1 := Aside0.mk (ne_of_blk B.out)
          refine hK.out _ _ ⟨U_5.out, A_5.out, B_5.out⟩ (fun hHeld => ?_)
          clear hK K
          refine norm_ (a' := ?_) ?_ ?_
          rotate_left
          · show Act.put _ (some 8) _ = _
            simp only [Act.put, OpenRow.s1, OpenRow.s2, OpenRow.s3, i64_w, i32_w]
            rfl
          refine one_ (i := 0) (N := some 35) #[true, true, false, true, false, true, false] rfl rfl (by kernel_rfl) (by decide) (fun K hK => ?_)
          refine goes_ Try.func39 (by kernel_rfl) rfl #[] (by rfl) rfl rfl (by simp only [List.map_toArray, List.map_cons, List.map_nil] <;> rfl) ?_
          with_reducible refine (HC.out _).mono ?_
          rintro e w3 ⟨rfl, hb⟩
          refine ⟨_, rfl, ?_⟩
          have U_5_0 := Aside0.mk (U_5.out.step hb)
          have A_5_0 := Aside0.mk (blk_below A_5.out hb)
          have B_5_0 := Aside0.mk (blk_below B_5.out hb)
          have G5_5_0 := Aside0.mk (blk_below G5_5.out hb)
          clear hb
          refine hK.out _ _ ⟨U_5_0.out, A_5_0.out, B_5_0.out⟩ (fun hHeld => ?_)
          clear hK K
          refine norm_ (a' := ?_) ?_ ?_
          rotate_left
          · show Act.put _ (some 35) _ = _
            simp only [Act.put, OpenRow.s1, OpenRow.s2, OpenRow.s3, i64_w, i32_w]
            rfl
          refine one_ (i := 2) (N := some 37) #[true, true, true, true, false, true, false] rfl rfl (by kernel_rfl) (by decide) (fun K hK => ?_)
          refine goes_ Try.func38 (by kernel_rfl) rfl #[.agg (arr .u64 (num cuN)), .agg (arr .u64 (num q))] (by rfl) rfl rfl (by simp only [List.map_toArray, List.map_cons, List.map_nil] <;> rfl) ?_
          with_reducible refine (HM.out _).mono ?_
          rintro e w3 ⟨rfl, hb⟩
          refine ⟨_, rfl, ?_⟩
          have U_5_0_2 := Aside0.mk (U_5_0.out.step hb)
          have A_5_0_2 := Aside0.mk (blk_below A_5_0.out hb)
          have B_5_0_2 := Aside0.mk (blk_below B_5_0.out hb)
          have G5_5_0_2 := Aside0.mk (blk_below G5_5_0.out hb)
          clear hb
          refine hK.out _ _ ⟨U_5_0_2.out, A_5_0_2.out, B_5_0_2.out⟩ (fun hHeld => ?_)
          clear hK K
          refine norm_ (a' := ?_) ?_ ?_
          rotate_left
          · show Act.put _ (some 37) _ = _
            simp only [Act.put, OpenRow.s1, OpenRow.s2, OpenRow.s3, i64_w, i32_w]
            rfl
          refine one_ (i := 4) (N := some 39) #[true, true, true, true, true, true, false] rfl rfl (by kernel_rfl) (by decide) (fun K hK => ?_)
          refine goes_ Try.func40 (by kernel_rfl) rfl #[.agg (arr .u64 (num m)), .agg #[.int .u64 1, .int .u64 0, .int .u64 0, .int .u64 0]] (by rfl) rfl rfl (by simp only [List.map_toArray, List.map_cons, List.map_nil] <;> rfl) ?_
          with_reducible refine (HP.out _).mono ?_
          rintro e w3 ⟨rfl, hb⟩
          refine ⟨_, rfl, ?_⟩
          have U_5_0_2_4 := Aside0.mk (U_5_0_2.out.step hb)
          have A_5_0_2_4 := Aside0.mk (blk_below A_5_0_2.out hb)
          have B_5_0_2_4 := Aside0.mk (blk_below B_5_0_2.out hb)
          have G5_5_0_2_4 := Aside0.mk (blk_below G5_5_0_2.out hb)
          clear hb
          refine hK.out _ _ ⟨U_5_0_2_4.out, A_5_0_2_4.out, B_5_0_2_4.out⟩ (fun hHeld => ?_)
          clear hK K
          refine norm_ (a' := ?_) ?_ ?_
          rotate_left
          · show Act.put _ (some 39) _ = _
            simp only [Act.put, OpenRow.s1, OpenRow.s2, OpenRow.s3, i64_w, i32_w]
            rfl
          exact norm_ (by simp only [putAll, Act.put, List.setIfInBounds_toArray, List.set_cons_zero, List.set_cons_succ] <;> rfl) (hCont _ _ ⟨U_5_0_2_4.out, A_5_0_2_4.out, B_5_0_2_4.out, G5_5_0_2_4.out, E5.out, M5_0.out, M5_1.out⟩)
      rintro g5_ w9 ⟨hS0, hS1, hS2, hG5, hE5, hM5_0, hM5_1⟩
      have T9 := Aside0.mk hS0
      have Z9_1 := Aside0.mk hS1
      have Z9_2 := Aside0.mk hS2
      have GG5 := Aside0.mk hG5
      have EE5 := Aside0.mk hE5
      have MM5_0 := Aside0.mk hM5_0
      have MM5_1 := Aside0.mk hM5_1
      have hHeld := (And.intro hS0 (And.intro hS1 hS2))
      clear hG5 hE5 hM5_0 hM5_1
      refine norm_ (a' := ?_) ?_ ?_
      rotate_left
      · simp only [putAll, Act.put, List.setIfInBounds_toArray, List.set_cons_zero, List.set_cons_succ]
        rfl
      refine one_ (i := 6) (N := none) #[true, true, true, true, true, true, true] rfl rfl (by kernel_rfl) (by decide) (fun K hK => ?_)
      refine st_step (by rfl) rfl 34 (.tmp 8) (.tmp 39) rfl g5_ rfl rfl GG5.out (m := 4) (by kernel_rfl) (num_length _) (by rw [num_length]; rfl) ?_
      intro w6 h1 h2 h3 h4
      have D := Aside0.mk h1
      have V := Aside0.mk (St.other T9.out h2 h3 EE5.out)
      have A2 := Aside0.mk ((h2 _ MM5_0.out).trans Z9_1.out)
      have B2 := Aside0.mk ((h2 _ MM5_1.out).trans Z9_2.out)
      clear h1 h2 h3 h4
      refine hK.out _ _ ⟨V.out, A2.out, B2.out⟩ (fun hHeld => ?_)
      clear hK K
      refine done_ (by kernel_rfl) ?_
      clear U A B
      have U := Aside0.mk V.out.drew
      have A := Aside0.mk (blk_drew A2.out)
      have B := Aside0.mk (blk_drew B2.out)
      have C := Aside0.mk (blk_drew D.out)
      clear T9 Z9_1 Z9_2 GG5 EE5 MM5_0 MM5_1 V A2 B2 D HC HM HP
      go_wp2
      refine start_ (n := 13) (S := fun w' => St w [⟨36, .u64, zL⟩] w' ∧ w'.heap[g6]? = some (.cells (arr .u64 (num y)) 34 (0, 0)) ∧ w'.heap[g7]? = some (.cells (arr .u64 (num q)) 34 (0, 0)) ∧ w'.heap[g5_]? = some (.cells (arr .u64 (num dd)) 34 (0, 0))) (ds := []) #[false, false, false, false, false, false, false, false, false, false, false, false, false] (by kernel_rfl) rfl rfl ⟨U.out, A.out, B.out, C.out⟩ (fun hHeld => ?_)
      refine pure_ (i := 1) (N := some 42) (v := ?_) (a' := ?_) #[false, true, false, false, false, false, false, false, false, false, false, false, false] rfl rfl (by kernel_rfl) (fun _ _ _ h => h) (Or.inl ⟨by rfl, ?_⟩) ?_ ?_
      rotate_left
      · intro w'; go_simp; with_reducible rfl
      rotate_left
      · simp only [Act.put, OpenRow.s1, OpenRow.s2, OpenRow.s3, i64_w, i32_w]; rfl
      refine take_ (i := 0) (N := some 41) (v := ?_) (a' := ?_) #[true, true, false, false, false, false, false, false, false, false, false, false, false] rfl rfl (by kernel_rfl) (fun _ _ _ h => h) (Or.inl ⟨by rfl, ?_⟩) hHeld ?_ ?_
      rotate_left
      · rintro w' ⟨s0, s1, s2, s3⟩
        refine (run_ld 34 (.tmp 7) (by rfl) g7 (by rfl) s2 Try.underlying34 (m := 4) (by kernel_rfl) (num_length _)).trans ?_; with_reducible rfl
      rotate_left
      · simp only [Act.put, OpenRow.s1, OpenRow.s2, OpenRow.s3, i64_w, i32_w]; rfl
      refine take_ (i := 3) (N := some 44) (v := ?_) (a' := ?_) #[true, true, false, true, false, false, false, false, false, false, false, false, false] rfl rfl (by kernel_rfl) (fun _ _ _ h => h) (Or.inl ⟨by rfl, ?_⟩) hHeld ?_ ?_
      rotate_left
      · rintro w' ⟨s0, s1, s2, s3⟩
        refine (run_ld 34 (.tmp 8) (by rfl) g5_ (by rfl) s3 Try.underlying34 (m := 4) (by kernel_rfl) (num_length _)).trans ?_; with_reducible rfl
      rotate_left
      · simp only [Act.put, OpenRow.s1, OpenRow.s2, OpenRow.s3, i64_w, i32_w]; rfl
      refine join_ (σ := Nat) 2 #[true, true, true, true, true, true, true, true, true, true, true, false, false] (fun s_ => [(43, .agg (arr .u64 (num nn))), (45, .agg (arr .u64 (num ii))), (46, .agg (arr .u64 (num xx))), (47, .tuple #[.agg (arr .u64 (num x0)), .bool ok]), (40, .tuple #[.agg (arr .u64 (num x0)), .bool ok]), (48, .agg (arr .u64 (num x0))), (49, .bool ok), (9, .pointer (some ⟨s_, 0, none⟩))]) (fun s_ w' => (St w [⟨36, .u64, zL⟩] w') ∧ (w'.heap[g6]? = some (.cells (arr .u64 (num y)) 34 (0, 0))) ∧ (w'.heap[g7]? = some (.cells (arr .u64 (num q)) 34 (0, 0))) ∧ (w'.heap[g5_]? = some (.cells (arr .u64 (num dd)) 34 (0, 0))) ∧ w'.heap[s_]? = some (.cells (arr .u64 z4) 34 (0, 0)) ∧ w.heap.size + 1 ≤ s_ ∧ g6 ≠ s_ ∧ g7 ≠ s_ ∧ g5_ ≠ s_) ?_ ?_
      rotate_left
      · intro hCont
        refine two_ (i := 2) (j := 10) (Ni := some 43) (Nj := some 9) #[true, true, true, true, false, false, false, false, false, false, false, false, false] #[true, true, false, true, false, false, false, false, false, false, true, false, false] rfl rfl rfl rfl (by kernel_rfl) (by decide) (by decide) (fun K hK => ?_) (fun K hK => ?_)
        · skip
          refine goes_ Try.func41 (by kernel_rfl) rfl #[.agg (arr .u64 (num q)), .agg #[.int .u64 1, .int .u64 0, .int .u64 0, .int .u64 0]] (by rfl) rfl rfl (by simp only [List.map_toArray, List.map_cons, List.map_nil] <;> rfl) ?_
          with_reducible refine (HN.out _).mono ?_
          rintro e w3 ⟨rfl, hb⟩
          refine ⟨_, rfl, ?_⟩
          have U_2 := Aside0.mk (U.out.step hb)
          have A_2 := Aside0.mk (blk_below A.out hb)
          have B_2 := Aside0.mk (blk_below B.out hb)
          have C_2 := Aside0.mk (blk_below C.out hb)
          clear hb
          refine hK.out _ _ ⟨U_2.out, A_2.out, B_2.out, C_2.out⟩ (fun hHeld => ?_)
          clear hK K
          refine norm_ (a' := ?_) ?_ ?_
          rotate_left
          · show Act.put _ (some 43) _ = _
            simp only [Act.put, OpenRow.s1, OpenRow.s2, OpenRow.s3, i64_w, i32_w]
            rfl
          refine two_ (i := 4) (j := 10) (Ni := some 45) (Nj := some 9) #[true, true, true, true, true, false, false, false, false, false, false, false, false] #[true, true, true, true, false, false, false, false, false, false, true, false, false] rfl rfl rfl rfl (by kernel_rfl) (by decide) (by decide) (fun K hK => ?_) (fun K hK => ?_)
          · skip
            refine goes_ Try.func42 (by kernel_rfl) rfl #[.agg (arr .u64 (num dd))] (by rfl) rfl rfl (by simp only [List.map_toArray, List.map_cons, List.map_nil] <;> rfl) ?_
            with_reducible refine (HI.out _).mono ?_
            rintro e w3 ⟨rfl, hb⟩
            refine ⟨_, rfl, ?_⟩
            have U_2_4 := Aside0.mk (U_2.out.step hb)
            have A_2_4 := Aside0.mk (blk_below A_2.out hb)
            have B_2_4 := Aside0.mk (blk_below B_2.out hb)
            have C_2_4 := Aside0.mk (blk_below C_2.out hb)
            clear hb
            refine hK.out _ _ ⟨U_2_4.out, A_2_4.out, B_2_4.out, C_2_4.out⟩ (fun hHeld => ?_)
            clear hK K
            refine norm_ (a' := ?_) ?_ ?_
            rotate_left
            · show Act.put _ (some 45) _ = _
              simp only [Act.put, OpenRow.s1, OpenRow.s2, OpenRow.s3, i64_w, i32_w]
              rfl
            refine two_ (i := 5) (j := 10) (Ni := some 46) (Nj := some 9) #[true, true, true, true, true, true, false, false, false, false, false, false, false] #[true, true, true, true, true, false, false, false, false, false, true, false, false] rfl rfl rfl rfl (by kernel_rfl) (by decide) (by decide) (fun K hK => ?_) (fun K hK => ?_)
            · skip
              refine goes_ Try.func38 (by kernel_rfl) rfl #[.agg (arr .u64 (num nn)), .agg (arr .u64 (num ii))] (by rfl) rfl rfl (by simp only [List.map_toArray, List.map_cons, List.map_nil] <;> rfl) ?_
              with_reducible refine (HT.out _).mono ?_
              rintro e w3 ⟨rfl, hb⟩
              refine ⟨_, rfl, ?_⟩
              have U_2_4_5 := Aside0.mk (U_2_4.out.step hb)
              have A_2_4_5 := Aside0.mk (blk_below A_2_4.out hb)
              have B_2_4_5 := Aside0.mk (blk_below B_2_4.out hb)
              have C_2_4_5 := Aside0.mk (blk_below C_2_4.out hb)
              clear hb
              refine hK.out _ _ ⟨U_2_4_5.out, A_2_4_5.out, B_2_4_5.out, C_2_4_5.out⟩ (fun hHeld => ?_)
              clear hK K
              refine norm_ (a' := ?_) ?_ ?_
              rotate_left
              · show Act.put _ (some 46) _ = _
                simp only [Act.put, OpenRow.s1, OpenRow.s2, OpenRow.s3, i64_w, i32_w]
                rfl
              refine two_ (i := 6) (j := 10) (Ni := some 47) (Nj := some 9) #[true, true, true, true, true, true, true, false, false, false, false, false, false] #[true, true, true, true, true, true, false, false, false, false, true, false, false] rfl rfl rfl rfl (by kernel_rfl) (by decide) (by decide) (fun K hK => ?_) (fun K hK => ?_)
              · skip
                refine goes_ Try.func43 (by kernel_rfl) rfl #[.agg (arr .u64 (num xx))] (by rfl) rfl rfl (by simp only [List.map_toArray, List.map_cons, List.map_nil] <;> rfl) ?_
                with_reducible refine (HR.out _).mono ?_
                rintro e w3 ⟨rfl, hb⟩
                refine ⟨_, rfl, ?_⟩
                have U_2_4_5_6 := Aside0.mk (U_2_4_5.out.step hb)
                have A_2_4_5_6 := Aside0.mk (blk_below A_2_4_5.out hb)
                have B_2_4_5_6 := Aside0.mk (blk_below B_2_4_5.out hb)
                have C_2_4_5_6 := Aside0.mk (blk_below C_2_4_5.out hb)
                clear hb
                refine hK.out _ _ ⟨U_2_4_5_6.out, A_2_4_5_6.out, B_2_4_5_6.out, C_2_4_5_6.out⟩ (fun hHeld => ?_)
                clear hK K
                refine norm_ (a' := ?_) ?_ ?_
                rotate_left
                · show Act.put _ (some 47) _ = _
                  simp only [Act.put, OpenRow.s1, OpenRow.s2, OpenRow.s3, i64_w, i32_w]
                  rfl
                refine pure_ (i := 7) (N := some 40) (v := ?_) (a' := ?_) #[true, true, true, true, true, true, true, true, false, false, false, false, false] rfl rfl (by kernel_rfl) (fun _ _ _ h => h) (Or.inl ⟨by rfl, ?_⟩) ?_ ?_
                rotate_left
                · intro w'; go_simp; with_reducible rfl
                rotate_left
                · simp only [Act.put, OpenRow.s1, OpenRow.s2, OpenRow.s3, i64_w, i32_w]; rfl
                refine pure_ (i := 8) (N := some 48) (v := ?_) (a' := ?_) #[true, true, true, true, true, true, true, true, true, false, false, false, false] rfl rfl (by kernel_rfl) (fun _ _ _ h => h) (Or.inl ⟨by rfl, ?_⟩) ?_ ?_
                rotate_left
                · intro w'; go_simp; with_reducible rfl
                rotate_left
                · simp only [Act.put, OpenRow.s1, OpenRow.s2, OpenRow.s3, i64_w, i32_w]; rfl
                refine pure_ (i := 9) (N := some 49) (v := ?_) (a' := ?_) #[true, true, true, true, true, true, true, true, true, true, false, false, false] rfl rfl (by kernel_rfl) (fun _ _ _ h => h) (Or.inl ⟨by rfl, ?_⟩) ?_ ?_
                rotate_left
                · intro w'; go_simp; with_reducible rfl
                rotate_left
                · simp only [Act.put, OpenRow.s1, OpenRow.s2, OpenRow.s3, i64_w, i32_w]; rfl
                refine one_ (i := 10) (N := some 9) #[true, true, true, true, true, true, true, true, true, true, true, false, false] rfl rfl (by kernel_rfl) (by decide) (fun K hK => ?_)
                refine value_ (w1 := ?_) (v := ?_) (by rfl) rfl ?_ ?_
                rotate_left 2
                · go_simp
                  constructor
                  · rfl
                  · rfl
                have U_2_4_5_6_10 := Aside0.mk (U_2_4_5_6.out.alloc (.cells (arr .u64 z4) 34))
                have A_2_4_5_6_10 := Aside0.mk (blk_alloc A_2_4_5_6.out (.cells (arr .u64 z4) 34))
                have B_2_4_5_6_10 := Aside0.mk (blk_alloc B_2_4_5_6.out (.cells (arr .u64 z4) 34))
                have C_2_4_5_6_10 := Aside0.mk (blk_alloc C_2_4_5_6.out (.cells (arr .u64 z4) 34))
                have G10_2_4_5_6_10 := Aside0.mk (U_2_4_5_6.out.new (.cells (arr .u64 z4) 34))
                have E10 := Aside0.mk U_2_4_5_6.out.size
                have M10_0 := Aside0.mk (ne_of_blk A_2_4_5_6.out)
                have M10_1 := Aside0.mk (ne_of_blk B_2_4_5_6.out)
                have M10_2 := Aside0.mk (ne_of_blk C_2_4_5_6.out)
                refine hK.out _ _ ⟨U_2_4_5_6_10.out, A_2_4_5_6_10.out, B_2_4_5_6_10.out, C_2_4_5_6_10.out⟩ (fun hHeld => ?_)
                clear hK K
                refine norm_ (a' := ?_) ?_ ?_
                rotate_left
                · show Act.put _ (some 9) _ = _
                  simp only [Act.put, OpenRow.s1, OpenRow.s2, OpenRow.s3, i64_w, i32_w]
                  rfl
                exact norm_ (by simp only [putAll, Act.put, List.setIfInBounds_toArray, List.set_cons_zero, List.set_cons_succ] <;> rfl) (hCont _ _ ⟨U_2_4_5_6_10.out, A_2_4_5_6_10.out, B_2_4_5_6_10.out, C_2_4_5_6_10.out, G10_2_4_5_6_10.out, E10.out, M10_0.out, M10_1.out, M10_2.out⟩)
              · skip
                refine value_ (w1 := ?_) (v := ?_) (by rfl) rfl ?_ ?_
                rotate_left 2
                · go_simp
                  constructor
                  · rfl
                  · rfl
                have U_2_4_5_10 := Aside0.mk (U_2_4_5.out.alloc (.cells (arr .u64 z4) 34))
                have A_2_4_5_10 := Aside0.mk (blk_alloc A_2_4_5.out (.cells (arr .u64 z4) 34))
                have B_2_4_5_10 := Aside0.mk (blk_alloc B_2_4_5.out (.cells (arr .u64 z4) 34))
                have C_2_4_5_10 := Aside0.mk (blk_alloc C_2_4_5.out (.cells (arr .u64 z4) 34))
                have G10_2_4_5_10 := Aside0.mk (U_2_4_5.out.new (.cells (arr .u64 z4) 34))
                have E10 := Aside0.mk U_2_4_5.out.size
                have M10_0 := Aside0.mk (ne_of_blk A_2_4_5.out)
                have M10_1 := Aside0.mk (ne_of_blk B_2_4_5.out)
                have M10_2 := Aside0.mk (ne_of_blk C_2_4_5.out)
                refine hK.out _ _ ⟨U_2_4_5_10.out, A_2_4_5_10.out, B_2_4_5_10.out, C_2_4_5_10.out⟩ (fun hHeld => ?_)
                clear hK K
                refine norm_ (a' := ?_) ?_ ?_
                rotate_left
                · show Act.put _ (some 9) _ = _
                  simp only [Act.put, OpenRow.s1, OpenRow.s2, OpenRow.s3, i64_w, i32_w]
                  rfl
                refine one_ (i := 6) (N := some 47) #[true, true, true, true, true, true, true, false, false, false, true, false, false] rfl rfl (by kernel_rfl) (by decide) (fun K hK => ?_)
                refine goes_ Try.func43 (by kernel_rfl) rfl #[.agg (arr .u64 (num xx))] (by rfl) rfl rfl (by simp only [List.map_toArray, List.map_cons, List.map_nil] <;> rfl) ?_
                with_reducible refine (HR.out _).mono ?_
                rintro e w3 ⟨rfl, hb⟩
                refine ⟨_, rfl, ?_⟩
                have U_2_4_5_10_6 := Aside0.mk (U_2_4_5_10.out.step hb)
                have A_2_4_5_10_6 := Aside0.mk (blk_below A_2_4_5_10.out hb)
                have B_2_4_5_10_6 := Aside0.mk (blk_below B_2_4_5_10.out hb)
                have C_2_4_5_10_6 := Aside0.mk (blk_below C_2_4_5_10.out hb)
                have G10_2_4_5_10_6 := Aside0.mk (blk_below G10_2_4_5_10.out hb)
                clear hb
                refine hK.out _ _ ⟨U_2_4_5_10_6.out, A_2_4_5_10_6.out, B_2_4_5_10_6.out, C_2_4_5_10_6.out⟩ (fun hHeld => ?_)
                clear hK K
                refine norm_ (a' := ?_) ?_ ?_
                rotate_left
                · show Act.put _ (some 47) _ = _
                  simp only [Act.put, OpenRow.s1, OpenRow.s2, OpenRow.s3, i64_w, i32_w]
                  rfl
                refine pure_ (i := 7) (N := some 40) (v := ?_) (a' := ?_) #[true, true, true, true, true, true, true, true, false, false, true, false, false] rfl rfl (by kernel_rfl) (fun _ _ _ h => h) (Or.inl ⟨by rfl, ?_⟩) ?_ ?_
                rotate_left
                · intro w'; go_simp; with_reducible rfl
                rotate_left
                · simp only [Act.put, OpenRow.s1, OpenRow.s2, OpenRow.s3, i64_w, i32_w]; rfl
                refine pure_ (i := 8) (N := some 48) (v := ?_) (a' := ?_) #[true, true, true, true, true, true, true, true, true, false, true, false, false] rfl rfl (by kernel_rfl) (fun _ _ _ h => h) (Or.inl ⟨by rfl, ?_⟩) ?_ ?_
                rotate_left
                · intro w'; go_simp; with_reducible rfl
                rotate_left
                · simp only [Act.put, OpenRow.s1, OpenRow.s2, OpenRow.s3, i64_w, i32_w]; rfl
                refine pure_ (i := 9) (N := some 49) (v := ?_) (a' := ?_) #[true, true, true, true, true, true, true, true, true, true, true, false, false] rfl rfl (by kernel_rfl) (fun _ _ _ h => h) (Or.inl ⟨by rfl, ?_⟩) ?_ ?_
                rotate_left
                · intro w'; go_simp; with_reducible rfl
                rotate_left
                · simp only [Act.put, OpenRow.s1, OpenRow.s2, OpenRow.s3, i64_w, i32_w]; rfl
                exact norm_ (by simp only [putAll, Act.put, List.setIfInBounds_toArray, List.set_cons_zero, List.set_cons_succ] <;> rfl) (hCont _ _ ⟨U_2_4_5_10_6.out, A_2_4_5_10_6.out, B_2_4_5_10_6.out, C_2_4_5_10_6.out, G10_2_4_5_10_6.out, E10.out, M10_0.out, M10_1.out, M10_2.out⟩)
            · skip
              refine value_ (w1 := ?_) (v := ?_) (by rfl) rfl ?_ ?_
              rotate_left 2
              · go_simp
                constructor
                · rfl
                · rfl
              have U_2_4_10 := Aside0.mk (U_2_4.out.alloc (.cells (arr .u64 z4) 34))
              have A_2_4_10 := Aside0.mk (blk_alloc A_2_4.out (.cells (arr .u64 z4) 34))
              have B_2_4_10 := Aside0.mk (blk_alloc B_2_4.out (.cells (arr .u64 z4) 34))
              have C_2_4_10 := Aside0.mk (blk_alloc C_2_4.out (.cells (arr .u64 z4) 34))
              have G10_2_4_10 := Aside0.mk (U_2_4.out.new (.cells (arr .u64 z4) 34))
              have E10 := Aside0.mk U_2_4.out.size
              have M10_0 := Aside0.mk (ne_of_blk A_2_4.out)
              have M10_1 := Aside0.mk (ne_of_blk B_2_4.out)
              have M10_2 := Aside0.mk (ne_of_blk C_2_4.out)
              refine hK.out _ _ ⟨U_2_4_10.out, A_2_4_10.out, B_2_4_10.out, C_2_4_10.out⟩ (fun hHeld => ?_)
              clear hK K
              refine norm_ (a' := ?_) ?_ ?_
              rotate_left
              · show Act.put _ (some 9) _ = _
                simp only [Act.put, OpenRow.s1, OpenRow.s2, OpenRow.s3, i64_w, i32_w]
                rfl
              refine one_ (i := 5) (N := some 46) #[true, true, true, true, true, true, false, false, false, false, true, false, false] rfl rfl (by kernel_rfl) (by decide) (fun K hK => ?_)
              refine goes_ Try.func38 (by kernel_rfl) rfl #[.agg (arr .u64 (num nn)), .agg (arr .u64 (num ii))] (by rfl) rfl rfl (by simp only [List.map_toArray, List.map_cons, List.map_nil] <;> rfl) ?_
              with_reducible refine (HT.out _).mono ?_
              rintro e w3 ⟨rfl, hb⟩
              refine ⟨_, rfl, ?_⟩
              have U_2_4_10_5 := Aside0.mk (U_2_4_10.out.step hb)
              have A_2_4_10_5 := Aside0.mk (blk_below A_2_4_10.out hb)
              have B_2_4_10_5 := Aside0.mk (blk_below B_2_4_10.out hb)
              have C_2_4_10_5 := Aside0.mk (blk_below C_2_4_10.out hb)
              have G10_2_4_10_5 := Aside0.mk (blk_below G10_2_4_10.out hb)
              clear hb
              refine hK.out _ _ ⟨U_2_4_10_5.out, A_2_4_10_5.out, B_2_4_10_5.out, C_2_4_10_5.out⟩ (fun hHeld => ?_)
              clear hK K
              refine norm_ (a' := ?_) ?_ ?_
              rotate_left
              · show Act.put _ (some 46) _ = _
                simp only [Act.put, OpenRow.s1, OpenRow.s2, OpenRow.s3, i64_w, i32_w]
                rfl
              refine one_ (i := 6) (N := some 47) #[true, true, true, true, true, true, true, false, false, false, true, false, false] rfl rfl (by kernel_rfl) (by decide) (fun K hK => ?_)
              refine goes_ Try.func43 (by kernel_rfl) rfl #[.agg (arr .u64 (num xx))] (by rfl) rfl rfl (by simp only [List.map_toArray, List.map_cons, List.map_nil] <;> rfl) ?_
              with_reducible refine (HR.out _).mono ?_
              rintro e w3 ⟨rfl, hb⟩
              refine ⟨_, rfl, ?_⟩
              have U_2_4_10_5_6 := Aside0.mk (U_2_4_10_5.out.step hb)
              have A_2_4_10_5_6 := Aside0.mk (blk_below A_2_4_10_5.out hb)
              have B_2_4_10_5_6 := Aside0.mk (blk_below B_2_4_10_5.out hb)
              have C_2_4_10_5_6 := Aside0.mk (blk_below C_2_4_10_5.out hb)
              have G10_2_4_10_5_6 := Aside0.mk (blk_below G10_2_4_10_5.out hb)
              clear hb
              refine hK.out _ _ ⟨U_2_4_10_5_6.out, A_2_4_10_5_6.out, B_2_4_10_5_6.out, C_2_4_10_5_6.out⟩ (fun hHeld => ?_)
              clear hK K
              refine norm_ (a' := ?_) ?_ ?_
              rotate_left
              · show Act.put _ (some 47) _ = _
                simp only [Act.put, OpenRow.s1, OpenRow.s2, OpenRow.s3, i64_w, i32_w]
                rfl
              refine pure_ (i := 7) (N := some 40) (v := ?_) (a' := ?_) #[true, true, true, true, true, true, true, true, false, false, true, false, false] rfl rfl (by kernel_rfl) (fun _ _ _ h => h) (Or.inl ⟨by rfl, ?_⟩) ?_ ?_
              rotate_left
              · intro w'; go_simp; with_reducible rfl
              rotate_left
              · simp only [Act.put, OpenRow.s1, OpenRow.s2, OpenRow.s3, i64_w, i32_w]; rfl
              refine pure_ (i := 8) (N := some 48) (v := ?_) (a' := ?_) #[true, true, true, true, true, true, true, true, true, false, true, false, false] rfl rfl (by kernel_rfl) (fun _ _ _ h => h) (Or.inl ⟨by rfl, ?_⟩) ?_ ?_
              rotate_left
              · intro w'; go_simp; with_reducible rfl
              rotate_left
              · simp only [Act.put, OpenRow.s1, OpenRow.s2, OpenRow.s3, i64_w, i32_w]; rfl
              refine pure_ (i := 9) (N := some 49) (v := ?_) (a' := ?_) #[true, true, true, true, true, true, true, true, true, true, true, false, false] rfl rfl (by kernel_rfl) (fun _ _ _ h => h) (Or.inl ⟨by rfl, ?_⟩) ?_ ?_
              rotate_left
              · intro w'; go_simp; with_reducible rfl
              rotate_left
              · simp only [Act.put, OpenRow.s1, OpenRow.s2, OpenRow.s3, i64_w, i32_w]; rfl
              exact norm_ (by simp only [putAll, Act.put, List.setIfInBounds_toArray, List.set_cons_zero, List.set_cons_succ] <;> rfl) (hCont _ _ ⟨U_2_4_10_5_6.out, A_2_4_10_5_6.out, B_2_4_10_5_6.out, C_2_4_10_5_6.out, G10_2_4_10_5_6.out, E10.out, M10_0.out, M10_1.out, M10_2.out⟩)
          · skip
            refine value_ (w1 := ?_) (v := ?_) (by rfl) rfl ?_ ?_
            rotate_left 2
            · go_simp
              constructor
              · rfl
              · rfl
            have U_2_10 := Aside0.mk (U_2.out.alloc (.cells (arr .u64 z4) 34))
            have A_2_10 := Aside0.mk (blk_alloc A_2.out (.cells (arr .u64 z4) 34))
            have B_2_10 := Aside0.mk (blk_alloc B_2.out (.cells (arr .u64 z4) 34))
            have C_2_10 := Aside0.mk (blk_alloc C_2.out (.cells (arr .u64 z4) 34))
            have G10_2_10 := Aside0.mk (U_2.out.new (.cells (arr .u64 z4) 34))
            have E10 := Aside0.mk U_2.out.size
            have M10_0 := Aside0.mk (ne_of_blk A_2.out)
            have M10_1 := Aside0.mk (ne_of_blk B_2.out)
            have M10_2 := Aside0.mk (ne_of_blk C_2.out)
            refine hK.out _ _ ⟨U_2_10.out, A_2_10.out, B_2_10.out, C_2_10.out⟩ (fun hHeld => ?_)
            clear hK K
            refine norm_ (a' := ?_) ?_ ?_
            rotate_left
            · show Act.put _ (some 9) _ = _
              simp only [Act.put, OpenRow.s1, OpenRow.s2, OpenRow.s3, i64_w, i32_w]
              rfl
            refine one_ (i := 4) (N := some 45) #[true, true, true, true, true, false, false, false, false, false, true, false, false] rfl rfl (by kernel_rfl) (by decide) (fun K hK => ?_)
            refine goes_ Try.func42 (by kernel_rfl) rfl #[.agg (arr .u64 (num dd))] (by rfl) rfl rfl (by simp only [List.map_toArray, List.map_cons, List.map_nil] <;> rfl) ?_
            with_reducible refine (HI.out _).mono ?_
            rintro e w3 ⟨rfl, hb⟩
            refine ⟨_, rfl, ?_⟩
            have U_2_10_4 := Aside0.mk (U_2_10.out.step hb)
            have A_2_10_4 := Aside0.mk (blk_below A_2_10.out hb)
            have B_2_10_4 := Aside0.mk (blk_below B_2_10.out hb)
            have C_2_10_4 := Aside0.mk (blk_below C_2_10.out hb)
            have G10_2_10_4 := Aside0.mk (blk_below G10_2_10.out hb)
            clear hb
            refine hK.out _ _ ⟨U_2_10_4.out, A_2_10_4.out, B_2_10_4.out, C_2_10_4.out⟩ (fun hHeld => ?_)
            clear hK K
            refine norm_ (a' := ?_) ?_ ?_
            rotate_left
            · show Act.put _ (some 45) _ = _
              simp only [Act.put, OpenRow.s1, OpenRow.s2, OpenRow.s3, i64_w, i32_w]
              rfl
            refine one_ (i := 5) (N := some 46) #[true, true, true, true, true, true, false, false, false, false, true, false, false] rfl rfl (by kernel_rfl) (by decide) (fun K hK => ?_)
            refine goes_ Try.func38 (by kernel_rfl) rfl #[.agg (arr .u64 (num nn)), .agg (arr .u64 (num ii))] (by rfl) rfl rfl (by simp only [List.map_toArray, List.map_cons, List.map_nil] <;> rfl) ?_
            with_reducible refine (HT.out _).mono ?_
            rintro e w3 ⟨rfl, hb⟩
            refine ⟨_, rfl, ?_⟩
            have U_2_10_4_5 := Aside0.mk (U_2_10_4.out.step hb)
            have A_2_10_4_5 := Aside0.mk (blk_below A_2_10_4.out hb)
            have B_2_10_4_5 := Aside0.mk (blk_below B_2_10_4.out hb)
            have C_2_10_4_5 := Aside0.mk (blk_below C_2_10_4.out hb)
            have G10_2_10_4_5 := Aside0.mk (blk_below G10_2_10_4.out hb)
            clear hb
            refine hK.out _ _ ⟨U_2_10_4_5.out, A_2_10_4_5.out, B_2_10_4_5.out, C_2_10_4_5.out⟩ (fun hHeld => ?_)
            clear hK K
            refine norm_ (a' := ?_) ?_ ?_
            rotate_left
            · show Act.put _ (some 46) _ = _
              simp only [Act.put, OpenRow.s1, OpenRow.s2, OpenRow.s3, i64_w, i32_w]
              rfl
            refine one_ (i := 6) (N := some 47) #[true, true, true, true, true, true, true, false, false, false, true, false, false] rfl rfl (by kernel_rfl) (by decide) (fun K hK => ?_)
            refine goes_ Try.func43 (by kernel_rfl) rfl #[.agg (arr .u64 (num xx))] (by rfl) rfl rfl (by simp only [List.map_toArray, List.map_cons, List.map_nil] <;> rfl) ?_
            with_reducible refine (HR.out _).mono ?_
            rintro e w3 ⟨rfl, hb⟩
            refine ⟨_, rfl, ?_⟩
            have U_2_10_4_5_6 := Aside0.mk (U_2_10_4_5.out.step hb)
            have A_2_10_4_5_6 := Aside0.mk (blk_below A_2_10_4_5.out hb)
            have B_2_10_4_5_6 := Aside0.mk (blk_below B_2_10_4_5.out hb)
            have C_2_10_4_5_6 := Aside0.mk (blk_below C_2_10_4_5.out hb)
            have G10_2_10_4_5_6 := Aside0.mk (blk_below G10_2_10_4_5.out hb)
            clear hb
            refine hK.out _ _ ⟨U_2_10_4_5_6.out, A_2_10_4_5_6.out, B_2_10_4_5_6.out, C_2_10_4_5_6.out⟩ (fun hHeld => ?_)
            clear hK K
            refine norm_ (a' := ?_) ?_ ?_
            rotate_left
            · show Act.put _ (some 47) _ = _
              simp only [Act.put, OpenRow.s1, OpenRow.s2, OpenRow.s3, i64_w, i32_w]
              rfl
            refine pure_ (i := 7) (N := some 40) (v := ?_) (a' := ?_) #[true, true, true, true, true, true, true, true, false, false, true, false, false] rfl rfl (by kernel_rfl) (fun _ _ _ h => h) (Or.inl ⟨by rfl, ?_⟩) ?_ ?_
            rotate_left
            · intro w'; go_simp; with_reducible rfl
            rotate_left
            · simp only [Act.put, OpenRow.s1, OpenRow.s2, OpenRow.s3, i64_w, i32_w]; rfl
            refine pure_ (i := 8) (N := some 48) (v := ?_) (a' := ?_) #[true, true, true, true, true, true, true, true, true, false, true, false, false] rfl rfl (by kernel_rfl) (fun _ _ _ h => h) (Or.inl ⟨by rfl, ?_⟩) ?_ ?_
            rotate_left
            · intro w'; go_simp; with_reducible rfl
            rotate_left
            · simp only [Act.put, OpenRow.s1, OpenRow.s2, OpenRow.s3, i64_w, i32_w]; rfl
            refine pure_ (i := 9) (N := some 49) (v := ?_) (a' := ?_) #[true, true, true, true, true, true, true, true, true, true, true, false, false] rfl rfl (by kernel_rfl) (fun _ _ _ h => h) (Or.inl ⟨by rfl, ?_⟩) ?_ ?_
            rotate_left
            · intro w'; go_simp; with_reducible rfl
            rotate_left
            · simp only [Act.put, OpenRow.s1, OpenRow.s2, OpenRow.s3, i64_w, i32_w]; rfl
            exact norm_ (by simp only [putAll, Act.put, List.setIfInBounds_toArray, List.set_cons_zero, List.set_cons_succ] <;> rfl) (hCont _ _ ⟨U_2_10_4_5_6.out, A_2_10_4_5_6.out, B_2_10_4_5_6.out, C_2_10_4_5_6.out, G10_2_10_4_5_6.out, E10.out, M10_0.out, M10_1.out, M10_2.out⟩)
        · skip
          refine value_ (w1 := ?_) (v := ?_) (by rfl) rfl ?_ ?_
          rotate_left 2
          · go_simp
            constructor
            · rfl
            · rfl
          have U_10 := Aside0.mk (U.out.alloc (.cells (arr .u64 z4) 34))
          have A_10 := Aside0.mk (blk_alloc A.out (.cells (arr .u64 z4) 34))
          have B_10 := Aside0.mk (blk_alloc B.out (.cells (arr .u64 z4) 34))
          have C_10 := Aside0.mk (blk_alloc C.out (.cells (arr .u64 z4) 34))
          have G10_10 := Aside0.mk (U.out.new (.cells (arr .u64 z4) 34))
          have E10 := Aside0.mk U.out.size
          have M10_0 := Aside0.mk (ne_of_blk A.out)
          have M10_1 := Aside0.mk (ne_of_blk B.out)
          have M10_2 := Aside0.mk (ne_of_blk C.out)
          refine hK.out _ _ ⟨U_10.out, A_10.out, B_10.out, C_10.out⟩ (fun hHeld => ?_)
          clear hK K
          refine norm_ (a' := ?_) ?_ ?_
          rotate_left
          · show Act.put _ (some 9) _ = _
            simp only [Act.put, OpenRow.s1, OpenRow.s2, OpenRow.s3, i64_w, i32_w]
            rfl
          refine one_ (i := 2) (N := some 43) #[true, true, true, true, false, false, false, false, false, false, true, false, false] rfl rfl (by kernel_rfl) (by decide) (fun K hK => ?_)
          refine goes_ Try.func41 (by kernel_rfl) rfl #[.agg (arr .u64 (num q)), .agg #[.int .u64 1, .int .u64 0, .int .u64 0, .int .u64 0]] (by rfl) rfl rfl (by simp only [List.map_toArray, List.map_cons, List.map_nil] <;> rfl) ?_
          with_reducible refine (HN.out _).mono ?_
          rintro e w3 ⟨rfl, hb⟩
          refine ⟨_, rfl, ?_⟩
          have U_10_2 := Aside0.mk (U_10.out.step hb)
          have A_10_2 := Aside0.mk (blk_below A_10.out hb)
          have B_10_2 := Aside0.mk (blk_below B_10.out hb)
          have C_10_2 := Aside0.mk (blk_below C_10.out hb)
          have G10_10_2 := Aside0.mk (blk_below G10_10.out hb)
          clear hb
          refine hK.out _ _ ⟨U_10_2.out, A_10_2.out, B_10_2.out, C_10_2.out⟩ (fun hHeld => ?_)
          clear hK K
          refine norm_ (a' := ?_) ?_ ?_
          rotate_left
          · show Act.put _ (some 43) _ = _
            simp only [Act.put, OpenRow.s1, OpenRow.s2, OpenRow.s3, i64_w, i32_w]
            rfl
          refine one_ (i := 4) (N := some 45) #[true, true, true, true, true, false, false, false, false, false, true, false, false] rfl rfl (by kernel_rfl) (by decide) (fun K hK => ?_)
          refine goes_ Try.func42 (by kernel_rfl) rfl #[.agg (arr .u64 (num dd))] (by rfl) rfl rfl (by simp only [List.map_toArray, List.map_cons, List.map_nil] <;> rfl) ?_
          with_reducible refine (HI.out _).mono ?_
          rintro e w3 ⟨rfl, hb⟩
          refine ⟨_, rfl, ?_⟩
          have U_10_2_4 := Aside0.mk (U_10_2.out.step hb)
          have A_10_2_4 := Aside0.mk (blk_below A_10_2.out hb)
          have B_10_2_4 := Aside0.mk (blk_below B_10_2.out hb)
          have C_10_2_4 := Aside0.mk (blk_below C_10_2.out hb)
          have G10_10_2_4 := Aside0.mk (blk_below G10_10_2.out hb)
          clear hb
          refine hK.out _ _ ⟨U_10_2_4.out, A_10_2_4.out, B_10_2_4.out, C_10_2_4.out⟩ (fun hHeld => ?_)
          clear hK K
          refine norm_ (a' := ?_) ?_ ?_
          rotate_left
          · show Act.put _ (some 45) _ = _
            simp only [Act.put, OpenRow.s1, OpenRow.s2, OpenRow.s3, i64_w, i32_w]
            rfl
          refine one_ (i := 5) (N := some 46) #[true, true, true, true, true, true, false, false, false, false, true, false, false] rfl rfl (by kernel_rfl) (by decide) (fun K hK => ?_)
          refine goes_ Try.func38 (by kernel_rfl) rfl #[.agg (arr .u64 (num nn)), .agg (arr .u64 (num ii))] (by rfl) rfl rfl (by simp only [List.map_toArray, List.map_cons, List.map_nil] <;> rfl) ?_
          with_reducible refine (HT.out _).mono ?_
          rintro e w3 ⟨rfl, hb⟩
          refine ⟨_, rfl, ?_⟩
          have U_10_2_4_5 := Aside0.mk (U_10_2_4.out.step hb)
          have A_10_2_4_5 := Aside0.mk (blk_below A_10_2_4.out hb)
          have B_10_2_4_5 := Aside0.mk (blk_below B_10_2_4.out hb)
          have C_10_2_4_5 := Aside0.mk (blk_below C_10_2_4.out hb)
          have G10_10_2_4_5 := Aside0.mk (blk_below G10_10_2_4.out hb)
          clear hb
          refine hK.out _ _ ⟨U_10_2_4_5.out, A_10_2_4_5.out, B_10_2_4_5.out, C_10_2_4_5.out⟩ (fun hHeld => ?_)
          clear hK K
          refine norm_ (a' := ?_) ?_ ?_
          rotate_left
          · show Act.put _ (some 46) _ = _
            simp only [Act.put, OpenRow.s1, OpenRow.s2, OpenRow.s3, i64_w, i32_w]
            rfl
          refine one_ (i := 6) (N := some 47) #[true, true, true, true, true, true, true, false, false, false, true, false, false] rfl rfl (by kernel_rfl) (by decide) (fun K hK => ?_)
          refine goes_ Try.func43 (by kernel_rfl) rfl #[.agg (arr .u64 (num xx))] (by rfl) rfl rfl (by simp only [List.map_toArray, List.map_cons, List.map_nil] <;> rfl) ?_
          with_reducible refine (HR.out _).mono ?_
          rintro e w3 ⟨rfl, hb⟩
          refine ⟨_, rfl, ?_⟩
          have U_10_2_4_5_6 := Aside0.mk (U_10_2_4_5.out.step hb)
          have A_10_2_4_5_6 := Aside0.mk (blk_below A_10_2_4_5.out hb)
          have B_10_2_4_5_6 := Aside0.mk (blk_below B_10_2_4_5.out hb)
          have C_10_2_4_5_6 := Aside0.mk (blk_below C_10_2_4_5.out hb)
          have G10_10_2_4_5_6 := Aside0.mk (blk_below G10_10_2_4_5.out hb)
          clear hb
          refine hK.out _ _ ⟨U_10_2_4_5_6.out, A_10_2_4_5_6.out, B_10_2_4_5_6.out, C_10_2_4_5_6.out⟩ (fun hHeld => ?_)
          clear hK K
          refine norm_ (a' := ?_) ?_ ?_
          rotate_left
          · show Act.put _ (some 47) _ = _
            simp only [Act.put, OpenRow.s1, OpenRow.s2, OpenRow.s3, i64_w, i32_w]
            rfl
          refine pure_ (i := 7) (N := some 40) (v := ?_) (a' := ?_) #[true, true, true, true, true, true, true, true, false, false, true, false, false] rfl rfl (by kernel_rfl) (fun _ _ _ h => h) (Or.inl ⟨by rfl, ?_⟩) ?_ ?_
          rotate_left
          · intro w'; go_simp; with_reducible rfl
          rotate_left
          · simp only [Act.put, OpenRow.s1, OpenRow.s2, OpenRow.s3, i64_w, i32_w]; rfl
          refine pure_ (i := 8) (N := some 48) (v := ?_) (a' := ?_) #[true, true, true, true, true, true, true, true, true, false, true, false, false] rfl rfl (by kernel_rfl) (fun _ _ _ h => h) (Or.inl ⟨by rfl, ?_⟩) ?_ ?_
          rotate_left
          · intro w'; go_simp; with_reducible rfl
          rotate_left
          · simp only [Act.put, OpenRow.s1, OpenRow.s2, OpenRow.s3, i64_w, i32_w]; rfl
          refine pure_ (i := 9) (N := some 49) (v := ?_) (a' := ?_) #[true, true, true, true, true, true, true, true, true, true, true, false, false] rfl rfl (by kernel_rfl) (fun _ _ _ h => h) (Or.inl ⟨by rfl, ?_⟩) ?_ ?_
          rotate_left
          · intro w'; go_simp; with_reducible rfl
          rotate_left
          · simp only [Act.put, OpenRow.s1, OpenRow.s2, OpenRow.s3, i64_w, i32_w]; rfl
          exact norm_ (by simp only [putAll, Act.put, List.setIfInBounds_toArray, List.set_cons_zero, List.set_cons_succ] <;> rfl) (hCont _ _ ⟨U_10_2_4_5_6.out, A_10_2_4_5_6.out, B_10_2_4_5_6.out, C_10_2_4_5_6.out, G10_10_2_4_5_6.out, E10.out, M10_0.out, M10_1.out, M10_2.out⟩)
      rintro g10_ w9 ⟨hS0, hS1, hS2, hS3, hG10, hE10, hM10_0, hM10_1, hM10_2⟩
      have T9 := Aside0.mk hS0
      have Z9_1 := Aside0.mk hS1
      have Z9_2 := Aside0.mk hS2
      have Z9_3 := Aside0.mk hS3
      have GG10 := Aside0.mk hG10
      have EE10 := Aside0.mk hE10
      have MM10_0 := Aside0.mk hM10_0
      have MM10_1 := Aside0.mk hM10_1
      have MM10_2 := Aside0.mk hM10_2
      have hHeld := (And.intro hS0 (And.intro hS1 (And.intro hS2 hS3)))
      clear hG10 hE10 hM10_0 hM10_1 hM10_2
      refine norm_ (a' := ?_) ?_ ?_
      rotate_left
      · simp only [putAll, Act.put, List.setIfInBounds_toArray, List.set_cons_zero, List.set_cons_succ]
        rfl
      refine one_ (i := 11) (N := none) #[true, true, true, true, true, true, true, true, true, true, true, true, false] rfl rfl (by kernel_rfl) (by decide) (fun K hK => ?_)
      refine st_step (by rfl) rfl 34 (.tmp 9) (.tmp 48) rfl g10_ rfl rfl GG10.out (m := 4) (by kernel_rfl) (num_length _) (by rw [num_length]; rfl) ?_
      intro w6 h1 h2 h3 h4
      have X := Aside0.mk h1
      have V := Aside0.mk (St.other T9.out h2 h3 EE10.out)
      have A2 := Aside0.mk ((h2 _ MM10_0.out).trans Z9_1.out)
      have B2 := Aside0.mk ((h2 _ MM10_1.out).trans Z9_2.out)
      have C2 := Aside0.mk ((h2 _ MM10_2.out).trans Z9_3.out)
      clear h1 h2 h3 h4
      refine hK.out _ _ ⟨V.out, A2.out, B2.out, C2.out⟩ (fun hHeld => ?_)
      clear hK K
      refine pure_ (i := 12) (N := some 10) (v := ?_) (a' := ?_) #[true, true, true, true, true, true, true, true, true, true, true, true, true] rfl rfl (by kernel_rfl) (fun _ _ _ h => h) (Or.inl ⟨by rfl, ?_⟩) ?_ ?_
      rotate_left
      · intro w'; go_simp; with_reducible rfl
      rotate_left
      · simp only [Act.put, OpenRow.s1, OpenRow.s2, OpenRow.s3, i64_w, i32_w]; rfl
      refine done_ (by kernel_rfl) ?_
      have VA := V
      have AA := A2
      have XA := X
      have E9 := EE10
      have NE := MM10_0
      clear T9 Z9_1 Z9_2 Z9_3 GG10 EE10 MM10_0 MM10_1 MM10_2 V A2 B2 C2 X U A B C HN HI HT HR
      generalize g10_ = g9 at *
      cases ok with
      | false =>
        have hf := F1.out rfl
        go_wp2_with (first
          | (refine st_arr rfl 36 (.tmp 2) (.tmp 59) rfl w.heap.size (xs := zL) rfl rfl (VA.out.blk 0 rfl) (m := 16) (by kernel_rfl) rfl rfl ?_; intro w' h1 h2 h4 h3; have H1 := Aside0.mk h1; have VY := Aside0.mk (VA.out.row 0 rfl h1 h2 h3); clear h1 h2 h3 h4))
        exact bodyPost_ret (results_ct Try.results15 _ _ w.heap.size 36 _ (0, 0) _ rfl H1.out Try.underlying36 rfl (by kernel_rfl)) rfl ⟨by first | (rw [F7.out hf, hf]; done) | (rw [F7.out hf, hf]; rfl) | (rw [F7.out hf]; rfl) | rfl, VY.out.below⟩
      | true =>
        by_cases hz : x0 = 0
        · rw [decide_eq_true hz] at HZ
          cases sg with
          | true =>
            have hf := F2.out hz rfl
            clear hz
            go_wp2_with (first
              | ((with_reducible refine gate_dst (N := 53) rfl ?_); refine ld_arr_on (by rfl) 34 (.tmp 9) rfl g9 rfl XA.out Try.underlying34 (m := 4) (by kernel_rfl) (num_length _) ?_)
              | ((with_reducible refine (HZ.out _).mono ?_); rintro e w7 ⟨rfl, hb⟩; have VB := Aside0.mk (VA.out.step hb); have AB := Aside0.mk (blk_below AA.out hb); have XB := Aside0.mk (blk_below XA.out hb); clear hb)
              | (refine st_arr rfl 36 (.tmp 2) (.tmp 59) rfl w.heap.size (xs := zL) rfl rfl (VB.out.blk 0 rfl) (m := 16) (by kernel_rfl) rfl rfl ?_; intro w' h1 h2 h4 h3; have H1 := Aside0.mk h1; have VY := Aside0.mk (VB.out.row 0 rfl h1 h2 h3); clear h1 h2 h3 h4))
            exact bodyPost_ret (results_ct Try.results15 _ _ w.heap.size 36 _ (0, 0) _ rfl H1.out Try.underlying36 rfl (by kernel_rfl)) rfl ⟨by first | (rw [F7.out hf, hf]; done) | (rw [F7.out hf, hf]; rfl) | (rw [F7.out hf]; rfl) | rfl, VY.out.below⟩
          | false =>
            have hf := F3.out rfl (fun h => by cases h.2)
            have hv := F4.out hf x0 (F6.out rfl)
            have HA2 := Aside0.mk (HA.out x0 HX0.out)
            clear hz F4 F5 F6 F3 F2 F1 HA
            go_wp2_with (first
              | ((with_reducible refine gate_dst (N := 53) rfl ?_); refine ld_arr_on (by rfl) 34 (.tmp 9) rfl g9 rfl XA.out Try.underlying34 (m := 4) (by kernel_rfl) (num_length _) ?_)
              | ((with_reducible refine (HZ.out _).mono ?_); rintro e w7 ⟨rfl, hb⟩; have VB := Aside0.mk (VA.out.step hb); have AB := Aside0.mk (blk_below AA.out hb); have XB := Aside0.mk (blk_below XA.out hb); clear hb)
              | ((with_reducible refine gate_dst (N := 63) rfl ?_); refine ld_arr rfl 34 (.tmp 9) rfl g9 rfl XB.out Try.underlying34 (m := 4) (by kernel_rfl) (num_length _) ?_)
              | ((with_reducible refine gate_dst (N := 64) rfl ?_); refine ld_arr rfl 34 (.tmp 6) rfl g6 rfl AB.out Try.underlying34 (m := 4) (by kernel_rfl) (num_length _) ?_)
              | ((with_reducible refine (HA2.out _).mono ?_); rintro e w9 ⟨rfl, hb⟩; have VZ := Aside0.mk (VB.out.step hb); clear hb)
              | (refine st_arr rfl 36 (.tmp 2) (.tmp 65) rfl w.heap.size (xs := ptL x0 y 1 (x0 * y % PP)) rfl rfl (VZ.out.blk 0 rfl) (m := 16) (by kernel_rfl) (ptL_length _ _ _ _) (by rw [ptL_length]; rfl) ?_; intro w' h1 h2 h4 h3; have H1 := Aside0.mk h1; have VY := Aside0.mk (VZ.out.row 0 rfl h1 h2 h3); clear h1 h2 h3 h4))
            exact bodyPost_ret (results_ct Try.results15 _ _ w.heap.size 36 _ (0, 0) _ rfl H1.out Try.underlying36 rfl (by rw [arr_size, ptL_length]; kernel_rfl)) rfl ⟨by first | (rw [hv, hf]; done) | (rw [hv, hf]; rfl) | (rw [hv]; rfl) | rfl, VY.out.below⟩
        · rw [decide_eq_false hz] at HZ
          cases sg with
          | true =>
            have hf := F3.out rfl (fun h => hz h.1)
            have hx1 := Nat.mod_lt (PP - x0) FldP.PP_pos
            have hv := F4.out hf _ (F5.out rfl)
            clear hz F4 F5 F6 F3 F2 F1
            generalize (PP - x0) % PP = x1 at *
            have HA2 := Aside0.mk (HA.out x1 hx1)
            clear HA
            go_wp2_with (first
              | ((with_reducible refine gate_dst (N := 53) rfl ?_); refine ld_arr_on (by rfl) 34 (.tmp 9) rfl g9 rfl XA.out Try.underlying34 (m := 4) (by kernel_rfl) (num_length _) ?_)
              | ((with_reducible refine (HZ.out _).mono ?_); rintro e w7 ⟨rfl, hb⟩; have VB := Aside0.mk (VA.out.step hb); have AB := Aside0.mk (blk_below AA.out hb); have XB := Aside0.mk (blk_below XA.out hb); clear hb)
              | ((with_reducible refine gate_dst (N := 61) rfl ?_); refine ld_arr rfl 34 (.tmp 9) rfl g9 rfl XB.out Try.underlying34 (m := 4) (by kernel_rfl) (num_length _) ?_)
              | ((with_reducible refine (HNG.out _).mono ?_); rintro e w7 ⟨rfl, hb⟩; have VN := Aside0.mk (VB.out.step hb); have AN := Aside0.mk (blk_below AB.out hb); have XN := Aside0.mk (blk_below XB.out hb); clear hb)
              | (refine st_arr rfl 34 (.tmp 9) (.tmp 62) rfl g9 (xs := num x1) rfl rfl XN.out (m := 4) (by kernel_rfl) (num_length _) (by rw [num_length, num_length]) ?_; intro w8 h1 h2 h4 h3; have X9 := Aside0.mk h1; have V9 := Aside0.mk (St.other VN.out h2 h3 E9.out); have A9 := Aside0.mk ((h2 _ NE.out).trans AN.out); clear h1 h2 h3 h4)
              | ((with_reducible refine gate_dst (N := 63) rfl ?_); refine ld_arr rfl 34 (.tmp 9) rfl g9 rfl X9.out Try.underlying34 (m := 4) (by kernel_rfl) (num_length _) ?_)
              | ((with_reducible refine gate_dst (N := 64) rfl ?_); refine ld_arr rfl 34 (.tmp 6) rfl g6 rfl A9.out Try.underlying34 (m := 4) (by kernel_rfl) (num_length _) ?_)
              | ((with_reducible refine (HA2.out _).mono ?_); rintro e w9 ⟨rfl, hb⟩; have VZ := Aside0.mk (V9.out.step hb); clear hb)
              | (refine st_arr rfl 36 (.tmp 2) (.tmp 65) rfl w.heap.size (xs := ptL x1 y 1 (x1 * y % PP)) rfl rfl (VZ.out.blk 0 rfl) (m := 16) (by kernel_rfl) (ptL_length _ _ _ _) (by rw [ptL_length]; rfl) ?_; intro w' h1 h2 h4 h3; have H1 := Aside0.mk h1; have VY := Aside0.mk (VZ.out.row 0 rfl h1 h2 h3); clear h1 h2 h3 h4))
            exact bodyPost_ret (results_ct Try.results15 _ _ w.heap.size 36 _ (0, 0) _ rfl H1.out Try.underlying36 rfl (by rw [arr_size, ptL_length]; kernel_rfl)) rfl ⟨by first | (rw [hv, hf]; done) | (rw [hv, hf]; rfl) | (rw [hv]; rfl) | rfl, VY.out.below⟩
          | false =>
            have hf := F3.out rfl (fun h => hz h.1)
            have hv := F4.out hf x0 (F6.out rfl)
            have HA2 := Aside0.mk (HA.out x0 HX0.out)
            clear hz F4 F5 F6 F3 F2 F1 HA
            go_wp2_with (first
              | ((with_reducible refine gate_dst (N := 53) rfl ?_); refine ld_arr_on (by rfl) 34 (.tmp 9) rfl g9 rfl XA.out Try.underlying34 (m := 4) (by kernel_rfl) (num_length _) ?_)
              | ((with_reducible refine (HZ.out _).mono ?_); rintro e w7 ⟨rfl, hb⟩; have VB := Aside0.mk (VA.out.step hb); have AB := Aside0.mk (blk_below AA.out hb); have XB := Aside0.mk (blk_below XA.out hb); clear hb)
              | ((with_reducible refine gate_dst (N := 63) rfl ?_); refine ld_arr rfl 34 (.tmp 9) rfl g9 rfl XB.out Try.underlying34 (m := 4) (by kernel_rfl) (num_length _) ?_)
              | ((with_reducible refine gate_dst (N := 64) rfl ?_); refine ld_arr rfl 34 (.tmp 6) rfl g6 rfl AB.out Try.underlying34 (m := 4) (by kernel_rfl) (num_length _) ?_)
              | ((with_reducible refine (HA2.out _).mono ?_); rintro e w9 ⟨rfl, hb⟩; have VZ := Aside0.mk (VB.out.step hb); clear hb)
              | (refine st_arr rfl 36 (.tmp 2) (.tmp 65) rfl w.heap.size (xs := ptL x0 y 1 (x0 * y % PP)) rfl rfl (VZ.out.blk 0 rfl) (m := 16) (by kernel_rfl) (ptL_length _ _ _ _) (by rw [ptL_length]; rfl) ?_; intro w' h1 h2 h4 h3; have H1 := Aside0.mk h1; have VY := Aside0.mk (VZ.out.row 0 rfl h1 h2 h3); clear h1 h2 h3 h4))
            exact bodyPost_ret (results_ct Try.results15 _ _ w.heap.size 36 _ (0, 0) _ rfl H1.out Try.underlying36 rfl (by rw [arr_size, ptL_length]; kernel_rfl)) rfl ⟨by first | (rw [hv, hf]; done) | (rw [hv, hf]; rfl) | (rw [hv]; rfl) | rfl, VY.out.below⟩
    · have he' := Bool.eq_false_iff.mpr he
      have hf := okP_el he'
      have F7 := Aside0.mk (fun h => ptV_no (l := l) h)
      rw [he'] at HIE
      clear he he'
      go_enter Try.func15, Try.ntmps15
      go_wp2_with (first
        | ((refine (HCl.out _ HB0.out).mono ?_); rintro e w1 ⟨v, rfl, hR, hb⟩; obtain ⟨go, co, eo, gb, gl, _, HGc⟩ := Kd.R_form hR (by omega); rw [HLW.out] at eo; subst eo; have GB := Aside0.mk gb; rw [World.size_alloc] at GB; have S1 := Aside0.mk (S.out.step hb); have hx0 : w1.cell? ⟨go, 31, none⟩ = some (.int .u8 b) := (by rw [HBD.out]; exact (Kd.R_celln 0 hR (31 : Int) (by omega) (by omega)).1); have hf0 : w1.frozen? ⟨go, 31, none⟩ = false := (Kd.R_celln 0 hR (31 : Int) (by omega) (by omega)).2; have HP31 : Aside0 ((Kd.int .u8).R 5 (w1.setCell ⟨go, 31, none⟩ (.int .u8 lo)) (w.alloc (.cells (arr .u64 zL) 36)).heap.size (fun _ => True) (.slice (some ⟨go, 0, none⟩) 32 co) (lowB l)) := ⟨(by rw [← HLS.out]; exact (Kd.R_putg hR (31 : Int) lo).1)⟩; have HC3 := Aside0.mk (Kd.R_reads' HP31.out).2.2; have HCO := Aside0.mk (Kd.R_reads' HP31.out).2.1; rw [lowB_length, HLW.out] at HC3; clear hb hR gb gl HGc)
        | ((with_reducible refine (HIE.out _ _ _ HC3.out HCO.out).mono ?_); rintro e w2 ⟨rfl, hb⟩; have S2 := Aside0.mk ((St_far S1.out go 31 _ GB.out).step hb); have HC4 := Aside0.mk (Kd.C_below HC3.out hb); clear hb)
        | (refine st_arr rfl 36 (.tmp 2) (.tmp 29) rfl w.heap.size (xs := zL) rfl rfl (S2.out.blk 0 rfl) (m := 16) (by kernel_rfl) rfl rfl ?_; intro w' h1 h2 h4 h3; have H1 := Aside0.mk h1; have VY := Aside0.mk (S2.out.row 0 rfl h1 h2 h3); clear h1 h2 h3 h4))
      exact bodyPost_ret (results_ct Try.results15 _ _ w.heap.size 36 _ (0, 0) _ rfl H1.out Try.underlying36 rfl (by kernel_rfl)) rfl ⟨by first | (rw [F7.out hf, hf]; done) | (rw [F7.out hf, hf]; rfl) | (rw [F7.out hf]; rfl) | rfl, VY.out.below⟩
  · have hll : ¬ (l.length : Int) = 32 := by omega
    rw [ptV_no (okP_len hl), okP_len hl]
    go_enter Try.func15, Try.ntmps15
    go_wp2_with (first
      | (refine st_arr rfl 36 (.tmp 2) (.tmp 14) rfl w.heap.size (xs := zL) rfl rfl (S.out.blk 0 rfl) (m := 16) (by kernel_rfl) rfl rfl ?_; intro w' h1 h2 h4 h3; have H1 := Aside0.mk h1; have S2 := Aside0.mk (S.out.row 0 rfl h1 h2 h3); clear h1 h2 h3 h4))
    exact bodyPost_ret (results_ct Try.results15 _ _ w.heap.size 36 _ (0, 0) _ rfl H1.out Try.underlying36 rfl (by kernel_rfl)) rfl ⟨rfl, S2.out.below⟩
set_option maxHeartbeats 4000000 in
set_option maxRecDepth 100000 in
theorem impl_point_plus.calls (P Q : Q4) (w : World) (hP : Lt4 P) (hQ : Lt4 Q) :
    Calls Try.prog 16 #[.agg (arr .u64 (p4 P)), .agg (arr .u64 (p4 Q))] w fun e w' => e = .returned (.agg (arr .u64 (p4 (addI P Q)))) ∧ Below w.heap.size w w' := by
  have hPB : FldB.PP < BB := by decide
  obtain ⟨hx1, hy1, hz1, ht1⟩ := hP
  obtain ⟨hx2, hy2, hz2, ht2⟩ := hQ
  have HM := Aside0.mk (fun x y W (hx : x < FldB.PP) (hy : y < FldB.PP) => (show Calls Try.prog 38 #[.agg (arr .u64 (num x)), .agg (arr .u64 (num y))] W fun e w' => e = .returned (.agg (arr .u64 (num (fm x y)))) ∧ Below W.heap.size W w' from impl_element_times.calls x y W (Nat.lt_trans hx hPB) (Nat.lt_trans hy hPB)))
  have HA := Aside0.mk (fun x y W (hx : x < FldB.PP) (hy : y < FldB.PP) => (show Calls Try.prog 40 #[.agg (arr .u64 (num x)), .agg (arr .u64 (num y))] W fun e w' => e = .returned (.agg (arr .u64 (num (fa x y)))) ∧ Below W.heap.size W w' from impl_element_plus.calls x y W hx hy))
  have HS := Aside0.mk (fun x y W (hx : x < FldB.PP) (hy : y < FldB.PP) => (show Calls Try.prog 41 #[.agg (arr .u64 (num x)), .agg (arr .u64 (num y))] W fun e w' => e = .returned (.agg (arr .u64 (num (fs x y)))) ∧ Below W.heap.size W w' from impl_element_minus.calls x y W hx hy))
  have HC := Aside0.mk (fun W => (show Calls Try.prog 39 #[] W fun e w' => e = .returned (.agg (arr .u64 (num EdP.dN))) ∧ Below W.heap.size W w' from impl_curve.calls W))
  have hdN : EdP.dN < FldB.PP := by decide
  have M1 := Aside0.mk (fun W => HM.out P.x Q.y W hx1 hy2)
  have M2 := Aside0.mk (fun W => HM.out Q.x P.y W hx2 hy1)
  have A1 := Aside0.mk (fun W => HA.out _ _ W (lt_fm P.x Q.y) (lt_fm Q.x P.y))
  have M3 := Aside0.mk (fun W => HM.out P.y Q.y W hy1 hy2)
  have M4 := Aside0.mk (fun W => HM.out P.x Q.x W hx1 hx2)
  have A2 := Aside0.mk (fun W => HA.out _ _ W (lt_fm P.y Q.y) (lt_fm P.x Q.x))
  have MZ := Aside0.mk (fun W => HM.out P.z Q.z W hz1 hz2)
  have K1 := Aside0.mk (fun W => HM.out EdP.dN P.t W hdN ht1)
  have K2 := Aside0.mk (fun W => HM.out _ Q.t W (lt_fm EdP.dN P.t) ht2)
  have O1 := Aside0.mk (fun W => HA.out _ _ W (lt_fm P.z Q.z) (lt_fm (fm EdP.dN P.t) Q.t))
  have O2 := Aside0.mk (fun W => HS.out _ _ W (lt_fm P.z Q.z) (lt_fm (fm EdP.dN P.t) Q.t))
  have R1 := Aside0.mk (fun W => HM.out _ _ W (lt_fa (fm P.x Q.y) (fm Q.x P.y)) (lt_fs (fm P.z Q.z) (fm (fm EdP.dN P.t) Q.t)))
  have R2 := Aside0.mk (fun W => HM.out _ _ W (lt_fa (fm P.y Q.y) (fm P.x Q.x)) (lt_fa (fm P.z Q.z) (fm (fm EdP.dN P.t) Q.t)))
  have R3 := Aside0.mk (fun W => HM.out _ _ W (lt_fa (fm P.z Q.z) (fm (fm EdP.dN P.t) Q.t)) (lt_fs (fm P.z Q.z) (fm (fm EdP.dN P.t) Q.t)))
  have R4 := Aside0.mk (fun W => HM.out _ _ W (lt_fa (fm P.x Q.y) (fm Q.x P.y)) (lt_fa (fm P.y Q.y) (fm P.x Q.x)))
  have EQ := Aside0.mk (show addI P Q = ⟨fm (fa (fm P.x Q.y) (fm Q.x P.y)) (fs (fm P.z Q.z) (fm (fm EdP.dN P.t) Q.t)), fm (fa (fm P.y Q.y) (fm P.x Q.x)) (fa (fm P.z Q.z) (fm (fm EdP.dN P.t) Q.t)), fm (fa (fm P.z Q.z) (fm (fm EdP.dN P.t) Q.t)) (fs (fm P.z Q.z) (fm (fm EdP.dN P.t) Q.t)), fm (fa (fm P.x Q.y) (fm Q.x P.y)) (fa (fm P.y Q.y) (fm P.x Q.x))⟩ from rfl)
  rw [EQ.out]
  clear EQ HM HA HS hPB hdN hx1 hy1 hz1 ht1 hx2 hy2 hz2 ht2
  generalize fm P.x Q.y = m1 at *
  generalize fm Q.x P.y = m2 at *
  generalize fm P.y Q.y = m3 at *
  generalize fm P.x Q.x = m4 at *
  generalize fm P.z Q.z = z at *
  generalize EdP.dN = cN at *
  generalize fm cN P.t = k1 at *
  generalize fm k1 Q.t = own at *
  generalize fa m1 m2 = a at *
  generalize fa m3 m4 = b at *
  generalize fa z own = one at *
  generalize fs z own = two at *
  generalize fm a two = rx at *
  generalize fm b one = ry at *
  generalize fm one two = rz at *
  generalize fm a b = rt at *
  have HBD0 := Aside0.mk (fun W => build_pt (num rx) (num ry) (num rz) (num rt) (num_length _) (num_length _) (num_length _) (num_length _) W)
  have HPL0 := Aside0.mk (p4_length ⟨rx, ry, rz, rt⟩)
  obtain ⟨ps, hps⟩ : ∃ ps, ps = p4 ⟨rx, ry, rz, rt⟩ := ⟨_, rfl⟩
  have HBD := Aside0.mk (fun W => (show (Instr.build 36 #[(0, .agg (arr .u64 (num rx))), (1, .agg (arr .u64 (num ry))), (2, .agg (arr .u64 (num rz))), (3, .agg (arr .u64 (num rt)))]).run Try.prog W = .ok (.agg (arr .u64 ps)) W from by rw [hps]; exact HBD0.out W))
  have HPL := Aside0.mk (show ps.length = 16 by rw [hps]; exact HPL0.out)
  rw [← hps]
  clear HBD0 HPL0 hps
  have S := Aside0.mk ((((St.start w).push rfl 36 .u64 (p4 P)).push (World.size_alloc ..) 36 .u64 (p4 Q)).push (by rw [World.size_alloc, World.size_alloc]; rfl) 36 .u64 z16)
  go_enter Try.func16, Try.ntmps16
  go_wp2
  refine abs_world (bs := [⟨36, .u64, p4 P⟩, ⟨36, .u64, p4 Q⟩, ⟨36, .u64, z16⟩]) S.out ?_
  clear S
  intro W0 hS
  have U := Aside0.mk hS.drew
  clear hS
  refine start_ (n := 26) (S := fun w' => St w [⟨36, .u64, p4 P⟩, ⟨36, .u64, p4 Q⟩, ⟨36, .u64, z16⟩] w') (ds := [25]) #[false, false, false, false, false, false, false, false, false, false, false, false, false, false, false, false, false, false, false, false, false, false, false, false, false, false] (by kernel_rfl) rfl rfl (U.out) (fun hHeld => ?_)
  refine pure_ (i := 0) (N := some 11) (v := ?_) (a' := ?_) #[true, false, false, false, false, false, false, false, false, false, false, false, false, false, false, false, false, false, false, false, false, false, false, false, false, false] rfl rfl (by kernel_rfl) (fun _ _ _ h => h) (Or.inl ⟨by rfl, ?_⟩) ?_ ?_
  rotate_left
  · intro w'; go_simp; with_reducible rfl
  rotate_left
  · simp only [Act.put, OpenRow.s1, OpenRow.s2, OpenRow.s3, i64_w, i32_w]; rfl
  refine pure_ (i := 2) (N := some 13) (v := ?_) (a' := ?_) #[true, false, true, false, false, false, false, false, false, false, false, false, false, false, false, false, false, false, false, false, false, false, false, false, false, false] rfl rfl (by kernel_rfl) (fun _ _ _ h => h) (Or.inl ⟨by rfl, ?_⟩) ?_ ?_
  rotate_left
  · intro w'; go_simp; with_reducible rfl
  rotate_left
  · simp only [Act.put, OpenRow.s1, OpenRow.s2, OpenRow.s3, i64_w, i32_w]; rfl
  refine pure_ (i := 5) (N := some 16) (v := ?_) (a' := ?_) #[true, false, true, false, false, true, false, false, false, false, false, false, false, false, false, false, false, false, false, false, false, false, false, false, false, false] rfl rfl (by kernel_rfl) (fun _ _ _ h => h) (Or.inl ⟨by rfl, ?_⟩) ?_ ?_
  rotate_left
  · intro w'; go_simp; with_reducible rfl
  rotate_left
  · simp only [Act.put, OpenRow.s1, OpenRow.s2, OpenRow.s3, i64_w, i32_w]; rfl
  refine pure_ (i := 7) (N := some 18) (v := ?_) (a' := ?_) #[true, false, true, false, false, true, false, true, false, false, false, false, false, false, false, false, false, false, false, false, false, false, false, false, false, false] rfl rfl (by kernel_rfl) (fun _ _ _ h => h) (Or.inl ⟨by rfl, ?_⟩) ?_ ?_
  rotate_left
  · intro w'; go_simp; with_reducible rfl
  rotate_left
  · simp only [Act.put, OpenRow.s1, OpenRow.s2, OpenRow.s3, i64_w, i32_w]; rfl
  refine pure_ (i := 11) (N := some 22) (v := ?_) (a' := ?_) #[true, false, true, false, false, true, false, true, false, false, false, true, false, false, false, false, false, false, false, false, false, false, false, false, false, false] rfl rfl (by kernel_rfl) (fun _ _ _ h => h) (Or.inl ⟨by rfl, ?_⟩) ?_ ?_
  rotate_left
  · intro w'; go_simp; with_reducible rfl
  rotate_left
  · simp only [Act.put, OpenRow.s1, OpenRow.s2, OpenRow.s3, i64_w, i32_w]; rfl
  refine pure_ (i := 13) (N := some 24) (v := ?_) (a' := ?_) #[true, false, true, false, false, true, false, true, false, false, false, true, false, true, false, false, false, false, false, false, false, false, false, false, false, false] rfl rfl (by kernel_rfl) (fun _ _ _ h => h) (Or.inl ⟨by rfl, ?_⟩) ?_ ?_
  rotate_left
  · intro w'; go_simp; with_reducible rfl
  rotate_left
  · simp only [Act.put, OpenRow.s1, OpenRow.s2, OpenRow.s3, i64_w, i32_w]; rfl
  refine pure_ (i := 16) (N := some 27) (v := ?_) (a' := ?_) #[true, false, true, false, false, true, false, true, false, false, false, true, false, true, false, false, true, false, false, false, false, false, false, false, false, false] rfl rfl (by kernel_rfl) (fun _ _ _ h => h) (Or.inl ⟨by rfl, ?_⟩) ?_ ?_
  rotate_left
  · intro w'; go_simp; with_reducible rfl
  rotate_left
  · simp only [Act.put, OpenRow.s1, OpenRow.s2, OpenRow.s3, i64_w, i32_w]; rfl
  refine pure_ (i := 18) (N := some 29) (v := ?_) (a' := ?_) #[true, false, true, false, false, true, false, true, false, false, false, true, false, true, false, false, true, false, true, false, false, false, false, false, false, false] rfl rfl (by kernel_rfl) (fun _ _ _ h => h) (Or.inl ⟨by rfl, ?_⟩) ?_ ?_
  rotate_left
  · intro w'; go_simp; with_reducible rfl
  rotate_left
  · simp only [Act.put, OpenRow.s1, OpenRow.s2, OpenRow.s3, i64_w, i32_w]; rfl
  refine take_ (i := 1) (N := some 12) (v := ?_) (a' := ?_) #[true, true, true, false, false, true, false, true, false, false, false, true, false, true, false, false, true, false, true, false, false, false, false, false, false, false] rfl rfl (by kernel_rfl) (fun _ _ _ h => h) (Or.inl ⟨by rfl, ?_⟩) hHeld ?_ ?_
  rotate_left
  · intro w' s0
    refine (run_ldm 34 (.tmp 11) (by rfl) w.heap.size 0 (by rfl) (num P.x) (s0.blk 0 rfl) (p4_x P) Try.underlying34 (m := 4) (by kernel_rfl) (num_length _)).trans ?_; with_reducible rfl
  rotate_left
  · simp only [Act.put, OpenRow.s1, OpenRow.s2, OpenRow.s3, i64_w, i32_w]; rfl
  refine take_ (i := 3) (N := some 14) (v := ?_) (a' := ?_) #[true, true, true, true, false, true, false, true, false, false, false, true, false, true, false, false, true, false, true, false, false, false, false, false, false, false] rfl rfl (by kernel_rfl) (fun _ _ _ h => h) (Or.inl ⟨by rfl, ?_⟩) hHeld ?_ ?_
  rotate_left
  · intro w' s0
    refine (run_ldm 34 (.tmp 13) (by rfl) (w.heap.size + 1) 4 (by rfl) (num Q.y) (s0.blk 1 rfl) (p4_y Q) Try.underlying34 (m := 4) (by kernel_rfl) (num_length _)).trans ?_; with_reducible rfl
  rotate_left
  · simp only [Act.put, OpenRow.s1, OpenRow.s2, OpenRow.s3, i64_w, i32_w]; rfl
  refine take_ (i := 6) (N := some 17) (v := ?_) (a' := ?_) #[true, true, true, true, false, true, true, true, false, false, false, true, false, true, false, false, true, false, true, false, false, false, false, false, false, false] rfl rfl (by kernel_rfl) (fun _ _ _ h => h) (Or.inl ⟨by rfl, ?_⟩) hHeld ?_ ?_
  rotate_left
  · intro w' s0
    refine (run_ldm 34 (.tmp 16) (by rfl) (w.heap.size + 1) 0 (by rfl) (num Q.x) (s0.blk 1 rfl) (p4_x Q) Try.underlying34 (m := 4) (by kernel_rfl) (num_length _)).trans ?_; with_reducible rfl
  rotate_left
  · simp only [Act.put, OpenRow.s1, OpenRow.s2, OpenRow.s3, i64_w, i32_w]; rfl
  refine take_ (i := 8) (N := some 19) (v := ?_) (a' := ?_) #[true, true, true, true, false, true, true, true, true, false, false, true, false, true, false, false, true, false, true, false, false, false, false, false, false, false] rfl rfl (by kernel_rfl) (fun _ _ _ h => h) (Or.inl ⟨by rfl, ?_⟩) hHeld ?_ ?_
  rotate_left
  · intro w' s0
    refine (run_ldm 34 (.tmp 18) (by rfl) w.heap.size 4 (by rfl) (num P.y) (s0.blk 0 rfl) (p4_y P) Try.underlying34 (m := 4) (by kernel_rfl) (num_length _)).trans ?_; with_reducible rfl
  rotate_left
  · simp only [Act.put, OpenRow.s1, OpenRow.s2, OpenRow.s3, i64_w, i32_w]; rfl
  refine take_ (i := 12) (N := some 23) (v := ?_) (a' := ?_) #[true, true, true, true, false, true, true, true, true, false, false, true, true, true, false, false, true, false, true, false, false, false, false, false, false, false] rfl rfl (by kernel_rfl) (fun _ _ _ h => h) (Or.inl ⟨by rfl, ?_⟩) hHeld ?_ ?_
  rotate_left
  · intro w' s0
    refine (run_ldm 34 (.tmp 22) (by rfl) w.heap.size 4 (by rfl) (num P.y) (s0.blk 0 rfl) (p4_y P) Try.underlying34 (m := 4) (by kernel_rfl) (num_length _)).trans ?_; with_reducible rfl
  rotate_left
  · simp only [Act.put, OpenRow.s1, OpenRow.s2, OpenRow.s3, i64_w, i32_w]; rfl
  refine take_ (i := 14) (N := some 25) (v := ?_) (a' := ?_) #[true, true, true, true, false, true, true, true, true, false, false, true, true, true, true, false, true, false, true, false, false, false, false, false, false, false] rfl rfl (by kernel_rfl) (fun _ _ _ h => h) (Or.inl ⟨by rfl, ?_⟩) hHeld ?_ ?_
  rotate_left
  · intro w' s0
    refine (run_ldm 34 (.tmp 24) (by rfl) (w.heap.size + 1) 4 (by rfl) (num Q.y) (s0.blk 1 rfl) (p4_y Q) Try.underlying34 (m := 4) (by kernel_rfl) (num_length _)).trans ?_; with_reducible rfl
  rotate_left
  · simp only [Act.put, OpenRow.s1, OpenRow.s2, OpenRow.s3, i64_w, i32_w]; rfl
  refine take_ (i := 17) (N := some 28) (v := ?_) (a' := ?_) #[true, true, true, true, false, true, true, true, true, false, false, true, true, true, true, false, true, true, true, false, false, false, false, false, false, false] rfl rfl (by kernel_rfl) (fun _ _ _ h => h) (Or.inl ⟨by rfl, ?_⟩) hHeld ?_ ?_
  rotate_left
  · intro w' s0
    refine (run_ldm 34 (.tmp 27) (by rfl) w.heap.size 0 (by rfl) (num P.x) (s0.blk 0 rfl) (p4_x P) Try.underlying34 (m := 4) (by kernel_rfl) (num_length _)).trans ?_; with_reducible rfl
  rotate_left
  · simp only [Act.put, OpenRow.s1, OpenRow.s2, OpenRow.s3, i64_w, i32_w]; rfl
  refine take_ (i := 19) (N := some 30) (v := ?_) (a' := ?_) #[true, true, true, true, false, true, true, true, true, false, false, true, true, true, true, false, true, true, true, true, false, false, false, false, false, false] rfl rfl (by kernel_rfl) (fun _ _ _ h => h) (Or.inl ⟨by rfl, ?_⟩) hHeld ?_ ?_
  rotate_left
  · intro w' s0
    refine (run_ldm 34 (.tmp 29) (by rfl) (w.heap.size + 1) 0 (by rfl) (num Q.x) (s0.blk 1 rfl) (p4_x Q) Try.underlying34 (m := 4) (by kernel_rfl) (num_length _)).trans ?_; with_reducible rfl
  rotate_left
  · simp only [Act.put, OpenRow.s1, OpenRow.s2, OpenRow.s3, i64_w, i32_w]; rfl
  refine ch2 [4, 9, 10, 15, 20, 21] 6 rfl (i1 := 22) (i2 := 23) (n1 := 5) (n2 := 6) (o1 := _) (o2 := _) (Z1 := .cells (arr .u64 z4) 34) (Z2 := .cells (arr .u64 z4) 34) (lf := #[true, true, true, true, true, true, true, true, true, true, true, true, true, true, true, true, true, true, true, true, true, true, true, true, false, false]) (f := 2) (VS := (fun k l => l = ([(15, .agg (arr .u64 (num m1))), (20, .agg (arr .u64 (num m2))), (21, .agg (arr .u64 (num a))), (26, .agg (arr .u64 (num m3))), (31, .agg (arr .u64 (num m4))), (32, .agg (arr .u64 (num b)))] : List (Tmp × Value)).take k)) (by kernel_rfl) rfl rfl rfl rfl rfl rfl rfl (by decide) ?hz1 ?hz2 (fun W1 W2 hs hb => ?hT) ?hV ?ha hHeld ?hB ?hfin
  case hz1 => intro ρ W; go_simp; first | done | exact ⟨rfl, rfl⟩ | rfl
  case hz2 => intro ρ W; go_simp; first | done | exact ⟨rfl, rfl⟩ | rfl
  case hT => exact (fun h => St.step h hb) hs
  case hV => exact rfl
  case ha => (simp only [pz, Act.put, OpenRow.s1, OpenRow.s2, OpenRow.s3] <;> rfl)
  case hB =>
    refine ⟨?_, ?_, ?_, ?_, ?_, ?_, trivial⟩
    · refine ⟨_, _, rfl, rfl, by decide, by decide, fun l hl x y Az hAz W1 hs K hK => ?_⟩
      subst hl
      simp only [pz, putAll, List.take_succ_cons, List.take_zero, List.take_nil, Act.put, OpenRow.s1, OpenRow.s2, OpenRow.s3] at hAz
      subst hAz
      refine goes_ Try.func38 (by kernel_rfl) rfl #[.agg (arr .u64 (num P.x)), .agg (arr .u64 (num Q.y))] (by rfl) rfl rfl (by simp only [List.map_toArray, List.map_cons, List.map_nil] <;> rfl) ?_
      with_reducible refine (M1.out _).mono ?_
      rintro e W2 ⟨rfl, hb⟩
      exact ⟨_, rfl, hK _ _ rfl hb⟩
    · refine ⟨_, _, rfl, rfl, by decide, by decide, fun l hl x y Az hAz W1 hs K hK => ?_⟩
      subst hl
      simp only [pz, putAll, List.take_succ_cons, List.take_zero, List.take_nil, Act.put, OpenRow.s1, OpenRow.s2, OpenRow.s3] at hAz
      subst hAz
      refine goes_ Try.func38 (by kernel_rfl) rfl #[.agg (arr .u64 (num Q.x)), .agg (arr .u64 (num P.y))] (by rfl) rfl rfl (by simp only [List.map_toArray, List.map_cons, List.map_nil] <;> rfl) ?_
      with_reducible refine (M2.out _).mono ?_
      rintro e W2 ⟨rfl, hb⟩
      exact ⟨_, rfl, hK _ _ rfl hb⟩
    · refine ⟨_, _, rfl, rfl, by decide, by decide, fun l hl x y Az hAz W1 hs K hK => ?_⟩
      subst hl
      simp only [pz, putAll, List.take_succ_cons, List.take_zero, List.take_nil, Act.put, OpenRow.s1, OpenRow.s2, OpenRow.s3] at hAz
      subst hAz
      refine goes_ Try.func40 (by kernel_rfl) rfl #[.agg (arr .u64 (num m1)), .agg (arr .u64 (num m2))] (by rfl) rfl rfl (by simp only [List.map_toArray, List.map_cons, List.map_nil] <;> rfl) ?_
      with_reducible refine (A1.out _).mono ?_
      rintro e W2 ⟨rfl, hb⟩
      exact ⟨_, rfl, hK _ _ rfl hb⟩
    · refine ⟨_, _, rfl, rfl, by decide, by decide, fun l hl x y Az hAz W1 hs K hK => ?_⟩
      subst hl
      simp only [pz, putAll, List.take_succ_cons, List.take_zero, List.take_nil, Act.put, OpenRow.s1, OpenRow.s2, OpenRow.s3] at hAz
      subst hAz
      refine goes_ Try.func38 (by kernel_rfl) rfl #[.agg (arr .u64 (num P.y)), .agg (arr .u64 (num Q.y))] (by rfl) rfl rfl (by simp only [List.map_toArray, List.map_cons, List.map_nil] <;> rfl) ?_
      with_reducible refine (M3.out _).mono ?_
      rintro e W2 ⟨rfl, hb⟩
      exact ⟨_, rfl, hK _ _ rfl hb⟩
    · refine ⟨_, _, rfl, rfl, by decide, by decide, fun l hl x y Az hAz W1 hs K hK => ?_⟩
      subst hl
      simp only [pz, putAll, List.take_succ_cons, List.take_zero, List.take_nil, Act.put, OpenRow.s1, OpenRow.s2, OpenRow.s3] at hAz
      subst hAz
      refine goes_ Try.func38 (by kernel_rfl) rfl #[.agg (arr .u64 (num P.x)), .agg (arr .u64 (num Q.x))] (by rfl) rfl rfl (by simp only [List.map_toArray, List.map_cons, List.map_nil] <;> rfl) ?_
      with_reducible refine (M4.out _).mono ?_
      rintro e W2 ⟨rfl, hb⟩
      exact ⟨_, rfl, hK _ _ rfl hb⟩
    · refine ⟨_, _, rfl, rfl, by decide, by decide, fun l hl x y Az hAz W1 hs K hK => ?_⟩
      subst hl
      simp only [pz, putAll, List.take_succ_cons, List.take_zero, List.take_nil, Act.put, OpenRow.s1, OpenRow.s2, OpenRow.s3] at hAz
      subst hAz
      refine goes_ Try.func40 (by kernel_rfl) rfl #[.agg (arr .u64 (num m3)), .agg (arr .u64 (num m4))] (by rfl) rfl rfl (by simp only [List.map_toArray, List.map_cons, List.map_nil] <;> rfl) ?_
      with_reducible refine (A2.out _).mono ?_
      rintro e W2 ⟨rfl, hb⟩
      exact ⟨_, rfl, hK _ _ rfl hb⟩
  case hfin =>
    intro l g22_ g23_ Az w9 hl hAz hs9 hG22 hG23 hE22 hE23 hN
    subst hl
    have hS0 := hs9
    have T9 := Aside0.mk hS0
    have GG22 := Aside0.mk hG22
    have GG23 := Aside0.mk hG23
    have EE22 := Aside0.mk (Nat.le_trans U.out.size hE22)
    have EE23 := Aside0.mk (Nat.le_trans U.out.size hE23)
    have NN := Aside0.mk hN
    have hHeld := hs9
    clear hG22 hG23 hE22 hE23 hN
    simp only [pz, ptr, putAll, List.take_succ_cons, List.take_zero, List.take_nil, Act.put, OpenRow.s1, OpenRow.s2, OpenRow.s3] at hAz
    subst hAz
    refine one_ (i := 24) (N := none) #[true, true, true, true, true, true, true, true, true, true, true, true, true, true, true, true, true, true, true, true, true, true, true, true, true, false] rfl rfl (by kernel_rfl) (by decide) (fun K hK => ?_)
    refine st_step (by rfl) rfl 34 (.tmp 5) (.tmp 21) rfl g22_ rfl rfl GG22.out (m := 4) (by kernel_rfl) (num_length _) (by rw [num_length]; rfl) ?_
    intro w6 h1 h2 h3 h4
    have GA := Aside0.mk h1
    have V1 := Aside0.mk (St.other T9.out h2 h3 EE22.out)
    have GB0 := Aside0.mk ((h2 _ NN.out.symm).trans GG23.out)
    clear h1 h2 h3 h4
    refine hK.out _ _ (V1.out) (fun hHeld => ?_)
    clear hK K
    refine last_ (i := 25) (N := none) #[true, true, true, true, true, true, true, true, true, true, true, true, true, true, true, true, true, true, true, true, true, true, true, true, true, true] rfl rfl (by kernel_rfl) (by decide) (fun K hK => ?_)
    refine st_step (by rfl) rfl 34 (.tmp 6) (.tmp 32) rfl g23_ rfl rfl GB0.out (m := 4) (by kernel_rfl) (num_length _) (by rw [num_length]; rfl) ?_
    intro w6 h1 h2 h3 h4
    have GB := Aside0.mk h1
    have V2 := Aside0.mk (St.other V1.out h2 h3 EE23.out)
    have GA2 := Aside0.mk ((h2 _ NN.out).trans GA.out)
    clear h1 h2 h3 h4
    refine hK.out _ _ ?_
    clear hK K
    refine done_ (by kernel_rfl) ?_
  
    go_wp2_with (first
      | ((with_reducible refine gate_dst (N := 34) rfl ?_); refine ldm_arr rfl 34 (.tmp 33) rfl w.heap.size 8 rfl (num P.z) (V2.out.blk 0 rfl) (p4_z P) Try.underlying34 (m := 4) (by kernel_rfl) (num_length _) ?_)
      | ((with_reducible refine gate_dst (N := 36) rfl ?_); refine ldm_arr rfl 34 (.tmp 35) rfl (w.heap.size + 1) 8 rfl (num Q.z) (V2.out.blk 1 rfl) (p4_z Q) Try.underlying34 (m := 4) (by kernel_rfl) (num_length _) ?_)
      | ((with_reducible refine (MZ.out _).mono ?_); rintro e w3 ⟨rfl, hb⟩; have V3 := Aside0.mk (V2.out.step hb); have A3 := Aside0.mk (blk_below GA2.out hb); have B3 := Aside0.mk (blk_below GB.out hb); clear hb)
      | (refine st_arr rfl 34 (.tmp 7) (.tmp 37) rfl w3.heap.size (xs := num z) rfl rfl (blk_new w3 (.cells (arr .u64 z4) 34)) (m := 4) (by kernel_rfl) (num_length _) (by rw [num_length]; rfl) ?_; intro w4 h1 h2 h4 h3; have Z4 := Aside0.mk h1; have V4 := Aside0.mk (St.other (V3.out.alloc (.cells (arr .u64 z4) 34)) h2 h3 V3.out.size); have A4 := Aside0.mk ((h2 _ (ne_of_blk A3.out)).trans (blk_alloc A3.out _)); have B4 := Aside0.mk ((h2 _ (ne_of_blk B3.out)).trans (blk_alloc B3.out _)); have EZ := Aside0.mk V3.out.size; clear h1 h2 h3 h4))
    obtain ⟨gz, hgz⟩ : ∃ g, g = w3.heap.size := ⟨_, rfl⟩
    rw [← hgz] at Z4 EZ ⊢
    clear hgz V2 V1 GA GA2 GB GB0 V3 A3 B3 U T9 GG22 GG23
    have U := Aside0.mk V4.out.drew
    have A := Aside0.mk (blk_drew A4.out)
    have B := Aside0.mk (blk_drew B4.out)
    have Z := Aside0.mk (blk_drew Z4.out)
    clear V4 A4 B4 Z4
    refine start_ (n := 9) (S := fun w' => St w [⟨36, .u64, p4 P⟩, ⟨36, .u64, p4 Q⟩, ⟨36, .u64, z16⟩] w' ∧ w'.heap[g22_]? = some (.cells (arr .u64 (num a)) 34 (0, 0)) ∧ w'.heap[g23_]? = some (.cells (arr .u64 (num b)) 34 (0, 0)) ∧ w'.heap[gz]? = some (.cells (arr .u64 (num z)) 34 (0, 0))) (ds := [8]) #[false, false, false, false, false, false, false, false, false] (by kernel_rfl) rfl rfl ⟨U.out, A.out, B.out, Z.out⟩ (fun hHeld => ?_)
    refine pure_ (i := 1) (N := some 39) (v := ?_) (a' := ?_) #[false, true, false, false, false, false, false, false, false] rfl rfl (by kernel_rfl) (fun _ _ _ h => h) (Or.inl ⟨by rfl, ?_⟩) ?_ ?_
    rotate_left
    · intro w'; go_simp; with_reducible rfl
    rotate_left
    · simp only [Act.put, OpenRow.s1, OpenRow.s2, OpenRow.s3, i64_w, i32_w]; rfl
    refine pure_ (i := 4) (N := some 42) (v := ?_) (a' := ?_) #[false, true, false, false, true, false, false, false, false] rfl rfl (by kernel_rfl) (fun _ _ _ h => h) (Or.inl ⟨by rfl, ?_⟩) ?_ ?_
    rotate_left
    · intro w'; go_simp; with_reducible rfl
    rotate_left
    · simp only [Act.put, OpenRow.s1, OpenRow.s2, OpenRow.s3, i64_w, i32_w]; rfl
    refine take_ (i := 2) (N := some 40) (v := ?_) (a' := ?_) #[false, true, true, false, true, false, false, false, false] rfl rfl (by kernel_rfl) (fun _ _ _ h => h) (Or.inl ⟨by rfl, ?_⟩) hHeld ?_ ?_
    rotate_left
    · rintro w' ⟨s0, s1, s2, s3⟩
      refine (run_ldm 34 (.tmp 39) (by rfl) w.heap.size 12 (by rfl) (num P.t) (s0.blk 0 rfl) (p4_t P) Try.underlying34 (m := 4) (by kernel_rfl) (num_length _)).trans ?_; with_reducible rfl
    rotate_left
    · simp only [Act.put, OpenRow.s1, OpenRow.s2, OpenRow.s3, i64_w, i32_w]; rfl
    refine take_ (i := 5) (N := some 43) (v := ?_) (a' := ?_) #[false, true, true, false, true, true, false, false, false] rfl rfl (by kernel_rfl) (fun _ _ _ h => h) (Or.inl ⟨by rfl, ?_⟩) hHeld ?_ ?_
    rotate_left
    · rintro w' ⟨s0, s1, s2, s3⟩
      refine (run_ldm 34 (.tmp 42) (by rfl) (w.heap.size + 1) 12 (by rfl) (num Q.t) (s0.blk 1 rfl) (p4_t Q) Try.underlying34 (m := 4) (by kernel_rfl) (num_length _)).trans ?_; with_reducible rfl
    rotate_left
    · simp only [Act.put, OpenRow.s1, OpenRow.s2, OpenRow.s3, i64_w, i32_w]; rfl
    refine ch1 [0, 3, 6] 3 rfl (i1 := 7) (n1 := 8) (o1 := _) (Z1 := .cells (arr .u64 z4) 34) (lf := #[true, true, true, true, true, true, true, true, false]) (f := 1) (VS := (fun k l => l = ([(38, .agg (arr .u64 (num cN))), (41, .agg (arr .u64 (num k1))), (44, .agg (arr .u64 (num own)))] : List (Tmp × Value)).take k)) (by kernel_rfl) rfl rfl rfl rfl ?hz1 (fun W1 W2 hs hb => ?hT) ?hV ?ha hHeld ?hB ?hfin
    case hz1 => intro ρ W; go_simp; first | done | exact ⟨rfl, rfl⟩ | rfl
    case hT =>
      obtain ⟨h0, h1, h2, h3⟩ := hs
      exact ⟨St.step h0 hb, blk_below h1 hb, blk_below h2 hb, blk_below h3 hb⟩
    case hV => exact rfl
    case ha => (simp only [Act.put, OpenRow.s1, OpenRow.s2, OpenRow.s3] <;> rfl)
    case hB =>
      refine ⟨?_, ?_, ?_, trivial⟩
      · refine ⟨_, _, rfl, rfl, by decide, fun l hl x Az hAz W1 hs K hK => ?_⟩
        subst hl
        simp only [putAll, List.take_succ_cons, List.take_zero, List.take_nil, Act.put, OpenRow.s1, OpenRow.s2, OpenRow.s3] at hAz
        subst hAz
        refine goes_ Try.func39 (by kernel_rfl) rfl #[] (by rfl) rfl rfl (by simp only [List.map_toArray, List.map_cons, List.map_nil] <;> rfl) ?_
        with_reducible refine (HC.out _).mono ?_
        rintro e W2 ⟨rfl, hb⟩
        exact ⟨_, rfl, hK _ _ rfl hb⟩
      · refine ⟨_, _, rfl, rfl, by decide, fun l hl x Az hAz W1 hs K hK => ?_⟩
        subst hl
        simp only [putAll, List.take_succ_cons, List.take_zero, List.take_nil, Act.put, OpenRow.s1, OpenRow.s2, OpenRow.s3] at hAz
        subst hAz
        refine goes_ Try.func38 (by kernel_rfl) rfl #[.agg (arr .u64 (num cN)), .agg (arr .u64 (num P.t))] (by rfl) rfl rfl (by simp only [List.map_toArray, List.map_cons, List.map_nil] <;> rfl) ?_
        with_reducible refine (K1.out _).mono ?_
        rintro e W2 ⟨rfl, hb⟩
        exact ⟨_, rfl, hK _ _ rfl hb⟩
      · refine ⟨_, _, rfl, rfl, by decide, fun l hl x Az hAz W1 hs K hK => ?_⟩
        subst hl
        simp only [putAll, List.take_succ_cons, List.take_zero, List.take_nil, Act.put, OpenRow.s1, OpenRow.s2, OpenRow.s3] at hAz
        subst hAz
        refine goes_ Try.func38 (by kernel_rfl) rfl #[.agg (arr .u64 (num k1)), .agg (arr .u64 (num Q.t))] (by rfl) rfl rfl (by simp only [List.map_toArray, List.map_cons, List.map_nil] <;> rfl) ?_
        with_reducible refine (K2.out _).mono ?_
        rintro e W2 ⟨rfl, hb⟩
        exact ⟨_, rfl, hK _ _ rfl hb⟩
    case hfin =>
      intro l g7_ Az w9 hl hAz hs9 hG7 hE7
      subst hl
      have hs9_ := hs9
      obtain ⟨hS0, hS1, hS2, hS3⟩ := hs9_
      have T9 := Aside0.mk hS0
      have Z9_1 := Aside0.mk hS1
      have Z9_2 := Aside0.mk hS2
      have Z9_3 := Aside0.mk hS3
      have GG7 := Aside0.mk hG7
      have EE7 := Aside0.mk (Nat.le_trans U.out.size hE7)
      have MM7_0 := Aside0.mk (ne_new A.out hE7)
      have MM7_1 := Aside0.mk (ne_new B.out hE7)
      have MM7_2 := Aside0.mk (ne_new Z.out hE7)
      have hHeld := hs9
      clear hG7 hE7
      simp only [ptr, putAll, List.take_succ_cons, List.take_zero, List.take_nil, Act.put, OpenRow.s1, OpenRow.s2, OpenRow.s3] at hAz
      subst hAz
      refine last_ (i := 8) (N := none) #[true, true, true, true, true, true, true, true, true] rfl rfl (by kernel_rfl) (by decide) (fun K hK => ?_)
      refine st_step (by rfl) rfl 34 (.tmp 8) (.tmp 44) rfl g7_ rfl rfl GG7.out (m := 4) (by kernel_rfl) (num_length _) (by rw [num_length]; rfl) ?_
      intro w6 h1 h2 h3 h4
      have O := Aside0.mk h1
      have V := Aside0.mk (St.other T9.out h2 h3 EE7.out)
      have A2 := Aside0.mk ((h2 _ MM7_0.out).trans Z9_1.out)
      have B2 := Aside0.mk ((h2 _ MM7_1.out).trans Z9_2.out)
      have Z2 := Aside0.mk ((h2 _ MM7_2.out).trans Z9_3.out)
      clear h1 h2 h3 h4
      refine hK.out _ _ ?_
      clear hK K
      refine done_ (by kernel_rfl) ?_
  
      (repeat go_step)
      obtain ⟨gw, hgw⟩ : ∃ g, g = g7_ := ⟨_, rfl⟩
      rw [← hgw] at O ⊢
      clear hgw U A B Z T9 Z9_1 Z9_2 Z9_3 GG7 MM7_0 MM7_1 MM7_2
      have U := Aside0.mk V.out.drew
      have A := Aside0.mk (blk_drew A2.out)
      have B := Aside0.mk (blk_drew B2.out)
      have Z := Aside0.mk (blk_drew Z2.out)
      have O_ := Aside0.mk (blk_drew O.out)
      clear V A2 B2 Z2 O
      have O := O_
      clear O_
      refine start_ (n := 10) (S := fun w' => St w [⟨36, .u64, p4 P⟩, ⟨36, .u64, p4 Q⟩, ⟨36, .u64, z16⟩] w' ∧ w'.heap[g22_]? = some (.cells (arr .u64 (num a)) 34 (0, 0)) ∧ w'.heap[g23_]? = some (.cells (arr .u64 (num b)) 34 (0, 0)) ∧ w'.heap[gz]? = some (.cells (arr .u64 (num z)) 34 (0, 0)) ∧ w'.heap[gw]? = some (.cells (arr .u64 (num own)) 34 (0, 0))) (ds := [9]) #[false, false, false, false, false, false, false, false, false, false] (by kernel_rfl) rfl rfl ⟨U.out, A.out, B.out, Z.out, O.out⟩ (fun hHeld => ?_)
      refine take_ (i := 0) (N := some 45) (v := ?_) (a' := ?_) #[true, false, false, false, false, false, false, false, false, false] rfl rfl (by kernel_rfl) (fun _ _ _ h => h) (Or.inl ⟨by rfl, ?_⟩) hHeld ?_ ?_
      rotate_left
      · rintro w' ⟨s0, s1, s2, s3, s4⟩
        refine (run_ld 34 (.tmp 7) (by rfl) gz (by rfl) s3 Try.underlying34 (m := 4) (by kernel_rfl) (num_length _)).trans ?_; with_reducible rfl
      rotate_left
      · simp only [Act.put, OpenRow.s1, OpenRow.s2, OpenRow.s3, i64_w, i32_w]; rfl
      refine take_ (i := 1) (N := some 46) (v := ?_) (a' := ?_) #[true, true, false, false, false, false, false, false, false, false] rfl rfl (by kernel_rfl) (fun _ _ _ h => h) (Or.inl ⟨by rfl, ?_⟩) hHeld ?_ ?_
      rotate_left
      · rintro w' ⟨s0, s1, s2, s3, s4⟩
        refine (run_ld 34 (.tmp 8) (by rfl) gw (by rfl) s4 Try.underlying34 (m := 4) (by kernel_rfl) (num_length _)).trans ?_; with_reducible rfl
      rotate_left
      · simp only [Act.put, OpenRow.s1, OpenRow.s2, OpenRow.s3, i64_w, i32_w]; rfl
      refine take_ (i := 3) (N := some 48) (v := ?_) (a' := ?_) #[true, true, false, true, false, false, false, false, false, false] rfl rfl (by kernel_rfl) (fun _ _ _ h => h) (Or.inl ⟨by rfl, ?_⟩) hHeld ?_ ?_
      rotate_left
      · rintro w' ⟨s0, s1, s2, s3, s4⟩
        refine (run_ld 34 (.tmp 7) (by rfl) gz (by rfl) s3 Try.underlying34 (m := 4) (by kernel_rfl) (num_length _)).trans ?_; with_reducible rfl
      rotate_left
      · simp only [Act.put, OpenRow.s1, OpenRow.s2, OpenRow.s3, i64_w, i32_w]; rfl
      refine take_ (i := 4) (N := some 49) (v := ?_) (a' := ?_) #[true, true, false, true, true, false, false, false, false, false] rfl rfl (by kernel_rfl) (fun _ _ _ h => h) (Or.inl ⟨by rfl, ?_⟩) hHeld ?_ ?_
      rotate_left
      · rintro w' ⟨s0, s1, s2, s3, s4⟩
        refine (run_ld 34 (.tmp 8) (by rfl) gw (by rfl) s4 Try.underlying34 (m := 4) (by kernel_rfl) (num_length _)).trans ?_; with_reducible rfl
      rotate_left
      · simp only [Act.put, OpenRow.s1, OpenRow.s2, OpenRow.s3, i64_w, i32_w]; rfl
      refine ch2 [2, 5] 2 rfl (i1 := 6) (i2 := 7) (n1 := 9) (n2 := 10) (o1 := _) (o2 := _) (Z1 := .cells (arr .u64 z4) 34) (Z2 := .cells (arr .u64 z4) 34) (lf := #[true, true, true, true, true, true, true, true, false, false]) (f := 2) (VS := (fun k l => l = ([(47, .agg (arr .u64 (num one))), (50, .agg (arr .u64 (num two)))] : List (Tmp × Value)).take k)) (by kernel_rfl) rfl rfl rfl rfl rfl rfl rfl (by decide) ?hz1 ?hz2 (fun W1 W2 hs hb => ?hT) ?hV ?ha hHeld ?hB ?hfin
      case hz1 => intro ρ W; go_simp; first | done | exact ⟨rfl, rfl⟩ | rfl
      case hz2 => intro ρ W; go_simp; first | done | exact ⟨rfl, rfl⟩ | rfl
      case hT =>
        obtain ⟨h0, h1, h2, h3, h4⟩ := hs
        exact ⟨St.step h0 hb, blk_below h1 hb, blk_below h2 hb, blk_below h3 hb, blk_below h4 hb⟩
      case hV => exact rfl
      case ha => (simp only [pz, Act.put, OpenRow.s1, OpenRow.s2, OpenRow.s3] <;> rfl)
      case hB =>
        refine ⟨?_, ?_, trivial⟩
        · refine ⟨_, _, rfl, rfl, by decide, by decide, fun l hl x y Az hAz W1 hs K hK => ?_⟩
          subst hl
          simp only [pz, putAll, List.take_succ_cons, List.take_zero, List.take_nil, Act.put, OpenRow.s1, OpenRow.s2, OpenRow.s3] at hAz
          subst hAz
          refine goes_ Try.func40 (by kernel_rfl) rfl #[.agg (arr .u64 (num z)), .agg (arr .u64 (num own))] (by rfl) rfl rfl (by simp only [List.map_toArray, List.map_cons, List.map_nil] <;> rfl) ?_
          with_reducible refine (O1.out _).mono ?_
          rintro e W2 ⟨rfl, hb⟩
          exact ⟨_, rfl, hK _ _ rfl hb⟩
        · refine ⟨_, _, rfl, rfl, by decide, by decide, fun l hl x y Az hAz W1 hs K hK => ?_⟩
          subst hl
          simp only [pz, putAll, List.take_succ_cons, List.take_zero, List.take_nil, Act.put, OpenRow.s1, OpenRow.s2, OpenRow.s3] at hAz
          subst hAz
          refine goes_ Try.func41 (by kernel_rfl) rfl #[.agg (arr .u64 (num z)), .agg (arr .u64 (num own))] (by rfl) rfl rfl (by simp only [List.map_toArray, List.map_cons, List.map_nil] <;> rfl) ?_
          with_reducible refine (O2.out _).mono ?_
          rintro e W2 ⟨rfl, hb⟩
          exact ⟨_, rfl, hK _ _ rfl hb⟩
      case hfin =>
        intro l g6_ g7_ Az w9 hl hAz hs9 hG6 hG7 hE6 hE7 hN
        subst hl
        have hs9_ := hs9
        obtain ⟨hS0, hS1, hS2, hS3, hS4⟩ := hs9_
        have T9 := Aside0.mk hS0
        have Z9_1 := Aside0.mk hS1
        have Z9_2 := Aside0.mk hS2
        have Z9_3 := Aside0.mk hS3
        have Z9_4 := Aside0.mk hS4
        have GG6 := Aside0.mk hG6
        have GG7 := Aside0.mk hG7
        have EE6 := Aside0.mk (Nat.le_trans U.out.size hE6)
        have EE7 := Aside0.mk (Nat.le_trans U.out.size hE7)
        have MM6_0 := Aside0.mk (ne_new A.out hE6)
        have MM6_1 := Aside0.mk (ne_new B.out hE6)
        have MM6_2 := Aside0.mk (ne_new Z.out hE6)
        have MM6_3 := Aside0.mk (ne_new O.out hE6)
        have MM7_0 := Aside0.mk (ne_new A.out hE7)
        have MM7_1 := Aside0.mk (ne_new B.out hE7)
        have MM7_2 := Aside0.mk (ne_new Z.out hE7)
        have MM7_3 := Aside0.mk (ne_new O.out hE7)
        have NN := Aside0.mk hN
        have hHeld := hs9
        clear hG6 hG7 hE6 hE7 hN
        simp only [pz, ptr, putAll, List.take_succ_cons, List.take_zero, List.take_nil, Act.put, OpenRow.s1, OpenRow.s2, OpenRow.s3] at hAz
        subst hAz
        refine one_ (i := 8) (N := none) #[true, true, true, true, true, true, true, true, true, false] rfl rfl (by kernel_rfl) (by decide) (fun K hK => ?_)
        refine st_step (by rfl) rfl 34 (.tmp 9) (.tmp 47) rfl g6_ rfl rfl GG6.out (m := 4) (by kernel_rfl) (num_length _) (by rw [num_length]; rfl) ?_
        intro w6 h1 h2 h3 h4
        have O1_ := Aside0.mk h1
        have V1 := Aside0.mk (St.other T9.out h2 h3 EE6.out)
        have A1_ := Aside0.mk ((h2 _ MM6_0.out).trans Z9_1.out)
        have B1_ := Aside0.mk ((h2 _ MM6_1.out).trans Z9_2.out)
        have Z1_ := Aside0.mk ((h2 _ MM6_2.out).trans Z9_3.out)
        have W1_ := Aside0.mk ((h2 _ MM6_3.out).trans Z9_4.out)
        have G7_ := Aside0.mk ((h2 _ NN.out.symm).trans GG7.out)
        clear h1 h2 h3 h4
        refine hK.out _ _ ⟨V1.out, A1_.out, B1_.out, Z1_.out, W1_.out⟩ (fun hHeld => ?_)
        clear hK K
        refine last_ (i := 9) (N := none) #[true, true, true, true, true, true, true, true, true, true] rfl rfl (by kernel_rfl) (by decide) (fun K hK => ?_)
        refine st_step (by rfl) rfl 34 (.tmp 10) (.tmp 50) rfl g7_ rfl rfl G7_.out (m := 4) (by kernel_rfl) (num_length _) (by rw [num_length]; rfl) ?_
        intro w6 h1 h2 h3 h4
        have O2_ := Aside0.mk h1
        have V2 := Aside0.mk (St.other V1.out h2 h3 EE7.out)
        have A2 := Aside0.mk ((h2 _ MM7_0.out).trans A1_.out)
        have B2 := Aside0.mk ((h2 _ MM7_1.out).trans B1_.out)
        have P2 := Aside0.mk ((h2 _ NN.out).trans O1_.out)
        clear h1 h2 h3 h4
        refine hK.out _ _ ?_
        clear hK K
        refine done_ (by kernel_rfl) ?_
  
        (repeat go_step)
        obtain ⟨g9, hg9⟩ : ∃ g, g = g6_ := ⟨_, rfl⟩
        obtain ⟨g10, hg10⟩ : ∃ g, g = g7_ := ⟨_, rfl⟩
        rw [← hg9] at P2 ⊢
        rw [← hg10] at O2_ ⊢
        clear hg9 hg10 U A B Z O T9 Z9_1 Z9_2 Z9_3 Z9_4 GG6 GG7 MM6_0 MM6_1 MM6_2 MM6_3 MM7_0 MM7_1 MM7_2 MM7_3 V1 A1_ B1_ Z1_ W1_ G7_ O1_
        have U := Aside0.mk V2.out.drew
        have A := Aside0.mk (blk_drew A2.out)
        have B := Aside0.mk (blk_drew B2.out)
        have O := Aside0.mk (blk_drew P2.out)
        have T := Aside0.mk (blk_drew O2_.out)
        clear V2 A2 B2 P2 O2_
        refine start_ (n := 14) (S := fun w' => St w [⟨36, .u64, p4 P⟩, ⟨36, .u64, p4 Q⟩, ⟨36, .u64, z16⟩] w' ∧ w'.heap[g22_]? = some (.cells (arr .u64 (num a)) 34 (0, 0)) ∧ w'.heap[g23_]? = some (.cells (arr .u64 (num b)) 34 (0, 0)) ∧ w'.heap[g9]? = some (.cells (arr .u64 (num one)) 34 (0, 0)) ∧ w'.heap[g10]? = some (.cells (arr .u64 (num two)) 34 (0, 0))) (ds := [13]) #[false, false, false, false, false, false, false, false, false, false, false, false, false, false] (by kernel_rfl) rfl rfl ⟨U.out, A.out, B.out, O.out, T.out⟩ (fun hHeld => ?_)
        refine take_ (i := 0) (N := some 51) (v := ?_) (a' := ?_) #[true, false, false, false, false, false, false, false, false, false, false, false, false, false] rfl rfl (by kernel_rfl) (fun _ _ _ h => h) (Or.inl ⟨by rfl, ?_⟩) hHeld ?_ ?_
        rotate_left
        · rintro w' ⟨s0, s1, s2, s3, s4⟩
          refine (run_ld 34 (.tmp 5) (by rfl) g22_ (by rfl) s1 Try.underlying34 (m := 4) (by kernel_rfl) (num_length _)).trans ?_; with_reducible rfl
        rotate_left
        · simp only [Act.put, OpenRow.s1, OpenRow.s2, OpenRow.s3, i64_w, i32_w]; rfl
        refine take_ (i := 1) (N := some 52) (v := ?_) (a' := ?_) #[true, true, false, false, false, false, false, false, false, false, false, false, false, false] rfl rfl (by kernel_rfl) (fun _ _ _ h => h) (Or.inl ⟨by rfl, ?_⟩) hHeld ?_ ?_
        rotate_left
        · rintro w' ⟨s0, s1, s2, s3, s4⟩
          refine (run_ld 34 (.tmp 10) (by rfl) g10 (by rfl) s4 Try.underlying34 (m := 4) (by kernel_rfl) (num_length _)).trans ?_; with_reducible rfl
        rotate_left
        · simp only [Act.put, OpenRow.s1, OpenRow.s2, OpenRow.s3, i64_w, i32_w]; rfl
        refine take_ (i := 3) (N := some 54) (v := ?_) (a' := ?_) #[true, true, false, true, false, false, false, false, false, false, false, false, false, false] rfl rfl (by kernel_rfl) (fun _ _ _ h => h) (Or.inl ⟨by rfl, ?_⟩) hHeld ?_ ?_
        rotate_left
        · rintro w' ⟨s0, s1, s2, s3, s4⟩
          refine (run_ld 34 (.tmp 6) (by rfl) g23_ (by rfl) s2 Try.underlying34 (m := 4) (by kernel_rfl) (num_length _)).trans ?_; with_reducible rfl
        rotate_left
        · simp only [Act.put, OpenRow.s1, OpenRow.s2, OpenRow.s3, i64_w, i32_w]; rfl
        refine take_ (i := 4) (N := some 55) (v := ?_) (a' := ?_) #[true, true, false, true, true, false, false, false, false, false, false, false, false, false] rfl rfl (by kernel_rfl) (fun _ _ _ h => h) (Or.inl ⟨by rfl, ?_⟩) hHeld ?_ ?_
        rotate_left
        · rintro w' ⟨s0, s1, s2, s3, s4⟩
          refine (run_ld 34 (.tmp 9) (by rfl) g9 (by rfl) s3 Try.underlying34 (m := 4) (by kernel_rfl) (num_length _)).trans ?_; with_reducible rfl
        rotate_left
        · simp only [Act.put, OpenRow.s1, OpenRow.s2, OpenRow.s3, i64_w, i32_w]; rfl
        refine take_ (i := 6) (N := some 57) (v := ?_) (a' := ?_) #[true, true, false, true, true, false, true, false, false, false, false, false, false, false] rfl rfl (by kernel_rfl) (fun _ _ _ h => h) (Or.inl ⟨by rfl, ?_⟩) hHeld ?_ ?_
        rotate_left
        · rintro w' ⟨s0, s1, s2, s3, s4⟩
          refine (run_ld 34 (.tmp 9) (by rfl) g9 (by rfl) s3 Try.underlying34 (m := 4) (by kernel_rfl) (num_length _)).trans ?_; with_reducible rfl
        rotate_left
        · simp only [Act.put, OpenRow.s1, OpenRow.s2, OpenRow.s3, i64_w, i32_w]; rfl
        refine take_ (i := 7) (N := some 58) (v := ?_) (a' := ?_) #[true, true, false, true, true, false, true, true, false, false, false, false, false, false] rfl rfl (by kernel_rfl) (fun _ _ _ h => h) (Or.inl ⟨by rfl, ?_⟩) hHeld ?_ ?_
        rotate_left
        · rintro w' ⟨s0, s1, s2, s3, s4⟩
          refine (run_ld 34 (.tmp 10) (by rfl) g10 (by rfl) s4 Try.underlying34 (m := 4) (by kernel_rfl) (num_length _)).trans ?_; with_reducible rfl
        rotate_left
        · simp only [Act.put, OpenRow.s1, OpenRow.s2, OpenRow.s3, i64_w, i32_w]; rfl
        refine take_ (i := 9) (N := some 60) (v := ?_) (a' := ?_) #[true, true, false, true, true, false, true, true, false, true, false, false, false, false] rfl rfl (by kernel_rfl) (fun _ _ _ h => h) (Or.inl ⟨by rfl, ?_⟩) hHeld ?_ ?_
        rotate_left
        · rintro w' ⟨s0, s1, s2, s3, s4⟩
          refine (run_ld 34 (.tmp 5) (by rfl) g22_ (by rfl) s1 Try.underlying34 (m := 4) (by kernel_rfl) (num_length _)).trans ?_; with_reducible rfl
        rotate_left
        · simp only [Act.put, OpenRow.s1, OpenRow.s2, OpenRow.s3, i64_w, i32_w]; rfl
        refine take_ (i := 10) (N := some 61) (v := ?_) (a' := ?_) #[true, true, false, true, true, false, true, true, false, true, true, false, false, false] rfl rfl (by kernel_rfl) (fun _ _ _ h => h) (Or.inl ⟨by rfl, ?_⟩) hHeld ?_ ?_
        rotate_left
        · rintro w' ⟨s0, s1, s2, s3, s4⟩
          refine (run_ld 34 (.tmp 6) (by rfl) g23_ (by rfl) s2 Try.underlying34 (m := 4) (by kernel_rfl) (num_length _)).trans ?_; with_reducible rfl
        rotate_left
        · simp only [Act.put, OpenRow.s1, OpenRow.s2, OpenRow.s3, i64_w, i32_w]; rfl
        refine one_ (i := 2) (N := some 53) #[true, true, true, true, true, false, true, true, false, true, true, false, false, false] rfl rfl (by kernel_rfl) (by decide) (fun K hK => ?_)
        refine goes_ Try.func38 (by kernel_rfl) rfl #[.agg (arr .u64 (num a)), .agg (arr .u64 (num two))] (by rfl) rfl rfl (by simp only [List.map_toArray, List.map_cons, List.map_nil] <;> rfl) ?_
        with_reducible refine (R1.out _).mono ?_
        rintro e w3 ⟨rfl, hb⟩
        refine ⟨_, rfl, ?_⟩
        have U1 := Aside0.mk (U.out.step hb)
        have A1 := Aside0.mk (blk_below A.out hb)
        have B1 := Aside0.mk (blk_below B.out hb)
        have O1 := Aside0.mk (blk_below O.out hb)
        have T1 := Aside0.mk (blk_below T.out hb)
        clear hb
        refine hK.out _ _ ⟨U1.out, A1.out, B1.out, O1.out, T1.out⟩ (fun hHeld => ?_)
        clear hK K
        refine norm_ (a' := ?_) ?_ ?_
        rotate_left
        · show Act.put _ (some 53) _ = _
          simp only [Act.put, OpenRow.s1, OpenRow.s2, OpenRow.s3, i64_w, i32_w]
          rfl
        refine one_ (i := 5) (N := some 56) #[true, true, true, true, true, true, true, true, false, true, true, false, false, false] rfl rfl (by kernel_rfl) (by decide) (fun K hK => ?_)
        refine goes_ Try.func38 (by kernel_rfl) rfl #[.agg (arr .u64 (num b)), .agg (arr .u64 (num one))] (by rfl) rfl rfl (by simp only [List.map_toArray, List.map_cons, List.map_nil] <;> rfl) ?_
        with_reducible refine (R2.out _).mono ?_
        rintro e w3 ⟨rfl, hb⟩
        refine ⟨_, rfl, ?_⟩
        have U2 := Aside0.mk (U1.out.step hb)
        have A2 := Aside0.mk (blk_below A1.out hb)
        have B2 := Aside0.mk (blk_below B1.out hb)
        have O2 := Aside0.mk (blk_below O1.out hb)
        have T2 := Aside0.mk (blk_below T1.out hb)
        clear hb
        refine hK.out _ _ ⟨U2.out, A2.out, B2.out, O2.out, T2.out⟩ (fun hHeld => ?_)
        clear hK K
        refine norm_ (a' := ?_) ?_ ?_
        rotate_left
        · show Act.put _ (some 56) _ = _
          simp only [Act.put, OpenRow.s1, OpenRow.s2, OpenRow.s3, i64_w, i32_w]
          rfl
        refine one_ (i := 8) (N := some 59) #[true, true, true, true, true, true, true, true, true, true, true, false, false, false] rfl rfl (by kernel_rfl) (by decide) (fun K hK => ?_)
        refine goes_ Try.func38 (by kernel_rfl) rfl #[.agg (arr .u64 (num one)), .agg (arr .u64 (num two))] (by rfl) rfl rfl (by simp only [List.map_toArray, List.map_cons, List.map_nil] <;> rfl) ?_
        with_reducible refine (R3.out _).mono ?_
        rintro e w3 ⟨rfl, hb⟩
        refine ⟨_, rfl, ?_⟩
        have U3 := Aside0.mk (U2.out.step hb)
        have A3 := Aside0.mk (blk_below A2.out hb)
        have B3 := Aside0.mk (blk_below B2.out hb)
        have O3 := Aside0.mk (blk_below O2.out hb)
        have T3 := Aside0.mk (blk_below T2.out hb)
        clear hb
        refine hK.out _ _ ⟨U3.out, A3.out, B3.out, O3.out, T3.out⟩ (fun hHeld => ?_)
        clear hK K
        refine norm_ (a' := ?_) ?_ ?_
        rotate_left
        · show Act.put _ (some 59) _ = _
          simp only [Act.put, OpenRow.s1, OpenRow.s2, OpenRow.s3, i64_w, i32_w]
          rfl
        refine one_ (i := 11) (N := some 62) #[true, true, true, true, true, true, true, true, true, true, true, true, false, false] rfl rfl (by kernel_rfl) (by decide) (fun K hK => ?_)
        refine goes_ Try.func38 (by kernel_rfl) rfl #[.agg (arr .u64 (num a)), .agg (arr .u64 (num b))] (by rfl) rfl rfl (by simp only [List.map_toArray, List.map_cons, List.map_nil] <;> rfl) ?_
        with_reducible refine (R4.out _).mono ?_
        rintro e w3 ⟨rfl, hb⟩
        refine ⟨_, rfl, ?_⟩
        have U4 := Aside0.mk (U3.out.step hb)
        have A4 := Aside0.mk (blk_below A3.out hb)
        have B4 := Aside0.mk (blk_below B3.out hb)
        have O4 := Aside0.mk (blk_below O3.out hb)
        have T4 := Aside0.mk (blk_below T3.out hb)
        clear hb
        refine hK.out _ _ ⟨U4.out, A4.out, B4.out, O4.out, T4.out⟩ (fun hHeld => ?_)
        clear hK K
        refine norm_ (a' := ?_) ?_ ?_
        rotate_left
        · show Act.put _ (some 62) _ = _
          simp only [Act.put, OpenRow.s1, OpenRow.s2, OpenRow.s3, i64_w, i32_w]
          rfl
        refine pure_ (i := 12) (N := some 63) (v := ?_) (a' := ?_) #[true, true, true, true, true, true, true, true, true, true, true, true, true, false] rfl rfl (by kernel_rfl) (fun _ _ _ h => h) (Or.inl ⟨by rfl, ?_⟩) ?_ ?_
        rotate_left
        · intro w'
          refine (run_bd rfl _ (by simp only [List.map_toArray, List.map_cons, List.map_nil] <;> rfl) (HBD.out _)).trans ?_; with_reducible rfl
        rotate_left
        · simp only [Act.put, OpenRow.s1, OpenRow.s2, OpenRow.s3, i64_w, i32_w]; rfl
        refine last_ (i := 13) (N := none) #[true, true, true, true, true, true, true, true, true, true, true, true, true, true] rfl rfl (by kernel_rfl) (by decide) (fun K hK => ?_)
        refine st_step (by rfl) rfl 36 (.tmp 4) (.tmp 63) rfl (w.heap.size + 2) (xs := ps) rfl rfl (U4.out.blk 2 rfl) (m := 16) (by kernel_rfl) HPL.out (by rw [HPL.out]; rfl) ?_
        intro w6 h1 h2 h3 h4
        have H1 := Aside0.mk h1
        have UE := Aside0.mk (U4.out.row 2 rfl h1 h2 h3)
        clear h1 h2 h3 h4
        refine hK.out _ _ ?_
        clear hK K
        refine done_ (by kernel_rfl) ?_
        (repeat go_step)
        exact bodyPost_ret (results_cell_row Try.results16 _ _ (w.heap.size + 2) 36 _ (0, 0) _ rfl H1.out Try.underlying36 rfl (by rw [arr_size, HPL.out]; kernel_rfl)) rfl ⟨rfl, UE.out.below⟩
set_option maxHeartbeats 400000 in
set_option maxRecDepth 100000 in
theorem impl_number_bytes.calls (x : Nat) (w : World) :
    Calls Try.prog 28 #[.agg (arr .u64 (num x))] w fun e w' => ∃ v0_ : Value, e = .returned (v0_) ∧ Kd.R (Kd.int .u8) 5 w' w.heap.size (fun _ => True) v0_ (limbs 256 32 x) ∧ Below w.heap.size w w' := by
  obtain ⟨xs, hxs⟩ : ∃ l, l = num x := ⟨_, rfl⟩
  have HX := Aside0.mk (hxs ▸ num_length x)
  have UX := Aside0.mk (hxs ▸ num_ok x)
  rw [← hxs]
  have V : bytS xs 32 = limbs 256 32 x := by rw [hxs]; exact bytS_num x
  rw [← V]
  clear hxs V
  have HB0 := Aside0.mk (show Below w.heap.size w (w.alloc (.cells (arr .u64 xs) 52)) from below_alloc (Below.refl _ _) _)
  have BX := Aside0.mk (blk_new w (.cells (arr .u64 xs) 52))
  go_enter Try.func28, Try.ntmps28
  go_wp2_with (first | ((with_reducible refine gate_dst (N := 5) rfl ?_); refine Kd.R_make (Kd.int .u8) _ 5 rfl (N := 5) rfl 22 _ _ rfl (32 : Int) rfl rfl Try.underlying22 (.int .u8 0) 1 info5 rfl (by decide) (by omega) 0 (ok := fun _ => True) (okp := fun _ => True) rfl (fun _ hk => hk) trivial (by decide) (by decide) (Below.refl _ _) (Nat.le_refl _) ?_; intro v148 w5 ho6 hb hg_ hnew_; rw [World.size_alloc] at ho6; have HO := Aside0.mk ho6; have HB := Aside0.mk (below_step HB0.out hb); have B0 := Aside0.mk (blk_below BX.out hb); clear ho6 hb hg_ hnew_; obtain ⟨Ao, co, eo⟩ := Kd.R_slice HO.out; rw [List.length_replicate, show Int.toNat 32 = 32 from rfl] at eo; subst eo))
  go_loopg [4, 8] 32 (fun gg _ v8 wr => ∃ k : Nat, k ≤ 32 ∧ 32 - k ≤ gg ∧ v8 = .int .i64 k ∧ Aside0 (wr.heap[w.heap.size]? = some (.cells (arr .u64 xs) 52 (0, 0))) ∧ Aside0 (Kd.R (Kd.int .u8) 5 wr (w.heap.size + 1) (fun _ => True) (.slice Ao 32 co) (bytS xs k)) ∧ Aside0 (Below w.heap.size w wr))
  case atStart => exact ⟨0, by omega, by omega, rfl, B0, HO, HB⟩
  case round =>
    obtain ⟨k, hk, hg, rfl, B1, HR, HB1⟩ := hrel
    by_cases hlt : k < 32
    · have hlti : (k : Int) < 32 := by omega
      obtain ⟨go, co', eo', gb, gl, cl, HG⟩ := Kd.R_form HR.out (by rw [bytS_length]; omega)
      injection eo' with ea en ec
      subst ea
      subst ec
      clear en
      obtain ⟨hx0, hf0⟩ := Kd.R_celln 0 HR.out (k : Int) (by omega) (by omega)
      obtain ⟨i, hi⟩ : ∃ i : Nat, i = k / 8 := ⟨_, rfl⟩
      obtain ⟨q, hq⟩ : ∃ q : Nat, q = k % 8 := ⟨_, rfl⟩
      obtain ⟨n, hn⟩ : ∃ n : Nat, n = 8 * q := ⟨_, rfl⟩
      have HP := Kd.R_putg HR.out (k : Int) ((xs.getD i 0 / 2 ^ n) % 256)
      simp only [Int.toNat_natCast] at hx0 hf0 HP
      have hc1 := blk_get B1.out i (by have := HX.out; omega)
      have hi1 : (k : Int) / 8 = (i : Int) := by omega
      have hq1 : (k : Int) % 8 = (q : Int) := by omega
      have hq2 : (k : Int).tmod 8 = (q : Int) := by rw [Int.tmod_eq_emod_of_nonneg (by omega)]; omega
      have hn1 : 8 * (q : Int) = (n : Int) := by omega
      have i4 : i < 4 := by omega
      have n56 : min n 64 = n := by omega
      have h4 : (i : Int) < 4 := by omega
      have hn2 : (n : Int) ≤ 56 := by omega
      have B2 := Aside0.mk (blk_far B1.out (p := ⟨go, k, none⟩) (by show w.heap.size ≠ go; omega) (.int .u8 ((xs.getD i 0 / 2 ^ n) % 256)))
      have HB2 := Aside0.mk (below_set (j := k) (v := .int .u8 ((xs.getD i 0 / 2 ^ n) % 256)) HB1.out (show w.heap.size ≤ go by omega))
      have HP2 := Aside0.mk HP.1
      have EQ := Aside0.mk (show bytS xs (k + 1) = (bytS xs k).set k ((xs.getD i 0 / 2 ^ n) % 256) from by rw [hi, hn, hq]; rfl)
      have a0 := getD_range UX.out i (by have := HX.out; omega)
      have a1 := a0.1
      clear hi hq hn HP gb gl HG a0
      generalize xs.getD i 0 = a at *
      go_wp2
      go_roundg (32 - (k + 1))
      case measure => omega
      case rel => exact ⟨k + 1, by omega, by omega, by go_num, B2, by rw [EQ.out]; exact HP2, HB2⟩
    · obtain rfl : k = 32 := by omega
      have hneg : ¬ ((32 : Nat) : Int) < 32 := by omega
      go_wp2
      go_ret
      exact ⟨_, rfl, Kd.R_lower HR.out (by omega), HB1.out⟩
set_option maxHeartbeats 1000000 in
set_option maxRecDepth 100000 in
theorem impl_element_bytes.calls (x : Nat) (w : World) :
    Calls Try.prog 47 #[.agg (arr .u64 (num x))] w fun e w' => ∃ v0_ : Value, e = .returned (v0_) ∧ Kd.R (Kd.int .u8) 5 w' w.heap.size (fun _ => True) v0_ (limbs 256 32 x) ∧ Below w.heap.size w w' := by
  have S := Aside0.mk ((St.start w).push rfl 34 .u64 (num x))
  have HC := Aside0.mk (impl_number_bytes.calls x (w.alloc (.cells (arr .u64 (num x)) 34)))
  go_enter Try.func47, Try.ntmps47
  go_wp2_with (first
    | ((with_reducible refine gate_dst (N := 3) rfl ?_); refine ld_arr rfl 34 (.tmp 1) rfl w.heap.size rfl (S.out.blk 0 rfl) Try.underlying34 (m := 4) (by kernel_rfl) (num_length _) ?_)
    | ((with_reducible refine (HC.out).mono ?_); rintro e w1 ⟨v, rfl, hR, hb⟩; have S1 := Aside0.mk (S.out.step hb); have HR := Aside0.mk (Kd.R_lower hR (below_size S.out.below)); clear hb hR))
  go_ret
  exact ⟨_, rfl, HR.out, S1.out.below⟩
theorem pt_x (x y z t : Nat) : ((ptL x y z t).drop 0).take (num x).length = num x := by
  rw [List.drop_zero, ptL, List.take_left']; rfl
theorem pt_y (x y z t : Nat) : ((ptL x y z t).drop 4).take (num y).length = num y := by
  rw [ptL, List.drop_left' (num_length x), List.take_left']; rfl
theorem pt_z (x y z t : Nat) : ((ptL x y z t).drop 8).take (num z).length = num z := by
  rw [ptL, ← List.append_assoc, List.drop_left' (by simp [num_length]), List.take_left']; rfl
set_option maxHeartbeats 1000000 in
set_option maxRecDepth 100000 in
theorem impl_point_bytes.even (x y z t i : Nat) (w : World) (hx : x < BB) (hy : y < BB) (hz : z < BB) (hi : z ^ (PP - 2) % PP = i) (hev : x * i % PP % 2 = 0) :
    Calls Try.prog 17 #[.agg (arr .u64 (ptL x y z t))] w fun e w' => ∃ v0_ : Value, e = .returned (v0_) ∧ Kd.R (Kd.int .u8) 5 w' w.heap.size (fun _ => True) v0_ (limbs 256 32 (y * i % PP)) ∧ Below w.heap.size w w' := by
  have HI := Aside0.mk (fun W => impl_element_inverse.calls z W hz)
  rw [hi] at HI
  have hiB : i < BB := by rw [← hi]; exact Nat.lt_trans (Nat.mod_lt _ PP_pos) (by decide)
  have HY := Aside0.mk (fun W => impl_element_times.calls y i W hy hiB)
  have HX := Aside0.mk (fun W => impl_element_times.calls x i W hx hiB)
  have HB := Aside0.mk (fun W => impl_element_bytes.calls (y * i % PP) W)
  have HO := Aside0.mk (fun W => impl_element_isOdd.calls (x * i % PP) W)
  rw [decide_eq_false (by omega)] at HO
  clear hi hev hiB hx hy hz
  generalize x * i % PP = xi at *
  generalize y * i % PP = yi at *
  have S := Aside0.mk ((St.start w).push rfl 36 .u64 (ptL x y z t))
  go_enter Try.func17, Try.ntmps17
  go_wp2_with (first
    | ((with_reducible refine gate_dst (N := 6) rfl ?_); refine ldm_arr rfl 34 (.tmp 5) rfl w.heap.size 8 rfl (num z) (S.out.blk 0 rfl) (pt_z x y z t) Try.underlying34 (m := 4) (by kernel_rfl) (num_length _) ?_)
    | ((with_reducible refine (HI.out _).mono ?_); rintro e w1 ⟨rfl, hb⟩; have S1 := Aside0.mk (S.out.step hb); clear hb)
    | (refine st_arr rfl 34 (.tmp 3) (.tmp 7) rfl w1.heap.size (xs := num i) rfl rfl (blk_new w1 (.cells (arr .u64 z4) 34)) (m := 4) (by kernel_rfl) (num_length _) (by rw [num_length]; rfl) ?_; intro w2 h1 h2 h4 h3; have G2 := Aside0.mk h1; have S2 := Aside0.mk (St.other (S1.out.alloc (.cells (arr .u64 z4) 34)) h2 h3 S1.out.size); clear h1 h2 h3 h4)
    | ((with_reducible refine gate_dst (N := 9) rfl ?_); refine ldm_arr rfl 34 (.tmp 8) rfl w.heap.size 4 rfl (num y) (S2.out.blk 0 rfl) (pt_y x y z t) Try.underlying34 (m := 4) (by kernel_rfl) (num_length _) ?_)
    | ((with_reducible refine gate_dst (N := 10) rfl ?_); refine ld_arr rfl 34 (.tmp 3) rfl w1.heap.size rfl G2.out Try.underlying34 (m := 4) (by kernel_rfl) (num_length _) ?_)
    | ((with_reducible refine (HY.out _).mono ?_); rintro e w3 ⟨rfl, hb⟩; have S3 := Aside0.mk (S2.out.step hb); have G3 := Aside0.mk (blk_below G2.out hb); clear hb)
    | ((with_reducible refine (HB.out _).mono ?_); rintro e w4 ⟨v, rfl, hR, hb⟩; have S4 := Aside0.mk (S3.out.step hb); have G4 := Aside0.mk (blk_below G3.out hb); have HR := Aside0.mk (Kd.R_lower hR (below_size S3.out.below)); clear hb hR)
    | ((with_reducible refine gate_dst (N := 14) rfl ?_); refine ldm_arr rfl 34 (.tmp 13) rfl w.heap.size 0 rfl (num x) (S4.out.blk 0 rfl) (pt_x x y z t) Try.underlying34 (m := 4) (by kernel_rfl) (num_length _) ?_)
    | ((with_reducible refine gate_dst (N := 15) rfl ?_); refine ld_arr rfl 34 (.tmp 3) rfl w1.heap.size rfl G4.out Try.underlying34 (m := 4) (by kernel_rfl) (num_length _) ?_)
    | ((with_reducible refine (HX.out _).mono ?_); rintro e w5 ⟨rfl, hb⟩; have S5 := Aside0.mk (S4.out.step hb); have HR5 := Aside0.mk (Kd.R_below HR.out hb); clear hb)
    | ((with_reducible refine (HO.out _).mono ?_); rintro e w6 ⟨rfl, hb⟩; have S6 := Aside0.mk (S5.out.step hb); have HR6 := Aside0.mk (Kd.R_below HR5.out hb); clear hb))
  go_ret
  exact ⟨_, rfl, HR6.out, S6.out.below⟩
set_option maxHeartbeats 4000000 in
set_option maxRecDepth 100000 in
theorem impl_point_bytes.calls (Q : Q4) (w : World) (hQ : Lt4 Q) :
    Calls Try.prog 17 #[.agg (arr .u64 (p4 Q))] w fun e w' => ∃ v0_ : Value, e = .returned (v0_) ∧ Kd.R (Kd.int .u8) 5 w' w.heap.size (fun _ => True) v0_ (enc4 Q) ∧ Below w.heap.size w w' := by
  obtain ⟨hx, hy, hz, _⟩ := hQ
  have hPB : FldB.PP < BB := by decide
  have HI := Aside0.mk (fun W => (show Calls Try.prog 42 #[.agg (arr .u64 (num Q.z))] W fun e w' => e = .returned (.agg (arr .u64 (num (ivv Q.z)))) ∧ Below W.heap.size W w' from impl_element_inverse.calls Q.z W (Nat.lt_trans hz hPB)))
  have HY := Aside0.mk (fun W => (show Calls Try.prog 38 #[.agg (arr .u64 (num Q.y)), .agg (arr .u64 (num (ivv Q.z)))] W fun e w' => e = .returned (.agg (arr .u64 (num (affY Q)))) ∧ Below W.heap.size W w' from impl_element_times.calls Q.y (ivv Q.z) W (Nat.lt_trans hy hPB) (Nat.lt_trans (ivv_lt _) hPB)))
  have HX := Aside0.mk (fun W => (show Calls Try.prog 38 #[.agg (arr .u64 (num Q.x)), .agg (arr .u64 (num (ivv Q.z)))] W fun e w' => e = .returned (.agg (arr .u64 (num (affX Q)))) ∧ Below W.heap.size W w' from impl_element_times.calls Q.x (ivv Q.z) W (Nat.lt_trans hx hPB) (Nat.lt_trans (ivv_lt _) hPB)))
  have HB := Aside0.mk (fun W => impl_element_bytes.calls (affY Q) W)
  have HO := Aside0.mk (fun W => impl_element_isOdd.calls (affX Q) W)
  have HOR := Aside0.mk (or_128 (affY Q) (affY_lt Q))
  have EE := Aside0.mk (show enc4 Q = if affX Q % 2 = 1 then (limbs 256 32 (affY Q)).set 31 ((limbs 256 32 (affY Q)).getD 31 0 + 128) else limbs 256 32 (affY Q) from rfl)
  obtain ⟨ez, hez⟩ : ∃ ez, ez = enc4 Q := ⟨_, rfl⟩
  rw [← hez] at EE ⊢
  clear hx hy hz hPB hez
  have LL := Aside0.mk (limbs_length 256 32 (affY Q))
  generalize affX Q = xi at *
  generalize affY Q = yi at *
  generalize ivv Q.z = i at *
  have S := Aside0.mk ((St.start w).push rfl 36 .u64 (p4 Q))
  by_cases hev : xi % 2 = 1
  · rw [decide_eq_true hev] at HO
    have EE2 := Aside0.mk (EE.out.trans (if_pos hev))
    clear hev EE
    obtain ⟨b31, hb31⟩ : ∃ b, b = (limbs 256 32 yi).getD 31 0 := ⟨_, rfl⟩
    have HBB := Aside0.mk hb31
    have hor : bits .or .u8 b31 128 = b31 + 128 := by rw [hb31]; exact HOR.out
    rw [← hb31] at EE2
    clear hb31 HOR
    go_enter Try.func17, Try.ntmps17
    go_wp2_with (first
      | ((with_reducible refine gate_dst (N := 6) rfl ?_); refine ldm_arr rfl 34 (.tmp 5) rfl w.heap.size 8 rfl (num Q.z) (S.out.blk 0 rfl) (p4_z Q) Try.underlying34 (m := 4) (by kernel_rfl) (num_length _) ?_)
      | ((with_reducible refine (HI.out _).mono ?_); rintro e w1 ⟨rfl, hb⟩; have S1 := Aside0.mk (S.out.step hb); clear hb)
      | (refine st_arr rfl 34 (.tmp 3) (.tmp 7) rfl w1.heap.size (xs := num i) rfl rfl (blk_new w1 (.cells (arr .u64 z4) 34)) (m := 4) (by kernel_rfl) (num_length _) (by rw [num_length]; rfl) ?_; intro w2 h1 h2 h4 h3; have G2 := Aside0.mk h1; have S2 := Aside0.mk (St.other (S1.out.alloc (.cells (arr .u64 z4) 34)) h2 h3 S1.out.size); clear h1 h2 h3 h4)
      | ((with_reducible refine gate_dst (N := 9) rfl ?_); refine ldm_arr rfl 34 (.tmp 8) rfl w.heap.size 4 rfl (num Q.y) (S2.out.blk 0 rfl) (p4_y Q) Try.underlying34 (m := 4) (by kernel_rfl) (num_length _) ?_)
      | ((with_reducible refine gate_dst (N := 10) rfl ?_); refine ld_arr rfl 34 (.tmp 3) rfl w1.heap.size rfl G2.out Try.underlying34 (m := 4) (by kernel_rfl) (num_length _) ?_)
      | ((with_reducible refine (HY.out _).mono ?_); rintro e w3 ⟨rfl, hb⟩; have S3 := Aside0.mk (S2.out.step hb); have G3 := Aside0.mk (blk_below G2.out hb); clear hb)
      | ((with_reducible refine (HB.out _).mono ?_); rintro e w4 ⟨v, rfl, hR, hb⟩; have S4 := Aside0.mk (S3.out.step hb); have G4 := Aside0.mk (blk_below G3.out hb); obtain ⟨go, co, eo, gb, _, _⟩ := Kd.R_form hR (by rw [limbs_length]; decide); rw [limbs_length] at eo; subst eo; have HR := Aside0.mk (Kd.R_lower hR (below_size S3.out.below)); have GB := Aside0.mk gb; clear hb hR gb)
      | ((with_reducible refine gate_dst (N := 14) rfl ?_); refine ldm_arr rfl 34 (.tmp 13) rfl w.heap.size 0 rfl (num Q.x) (S4.out.blk 0 rfl) (p4_x Q) Try.underlying34 (m := 4) (by kernel_rfl) (num_length _) ?_)
      | ((with_reducible refine gate_dst (N := 15) rfl ?_); refine ld_arr rfl 34 (.tmp 3) rfl w1.heap.size rfl G4.out Try.underlying34 (m := 4) (by kernel_rfl) (num_length _) ?_)
      | ((with_reducible refine (HX.out _).mono ?_); rintro e w5 ⟨rfl, hb⟩; have S5 := Aside0.mk (S4.out.step hb); have HR5 := Aside0.mk (Kd.R_below HR.out hb); clear hb)
      | ((with_reducible refine (HO.out _).mono ?_); rintro e w6 ⟨rfl, hb⟩; have S6 := Aside0.mk (S5.out.step hb); have HR6 := Aside0.mk (Kd.R_below HR5.out hb); clear hb; have hx0 : w6.cell? ⟨go, 31, none⟩ = some (.int .u8 b31) := (by rw [HBB.out]; exact (Kd.R_celln 0 HR6.out (31 : Int) (by omega) (by first | omega | (rw [LL.out]; omega) | (rw [LL.out]; decide))).1); have hf0 : w6.frozen? ⟨go, 31, none⟩ = false := (Kd.R_celln 0 HR6.out (31 : Int) (by omega) (by first | omega | (rw [LL.out]; omega) | (rw [LL.out]; decide))).2; have HP31 := Aside0.mk ((Kd.R_putg HR6.out (31 : Int) (b31 + 128)).1); have GBB := Aside0.mk (Nat.le_trans (below_size S3.out.below) GB.out)))
    go_ret
    exact ⟨_, rfl, by rw [EE2.out]; exact HP31.out, below_set S6.out.below GBB.out⟩
  · rw [decide_eq_false hev] at HO
    have EE2 := Aside0.mk (EE.out.trans (if_neg hev))
    clear hev EE
    go_enter Try.func17, Try.ntmps17
    go_wp2_with (first
      | ((with_reducible refine gate_dst (N := 6) rfl ?_); refine ldm_arr rfl 34 (.tmp 5) rfl w.heap.size 8 rfl (num Q.z) (S.out.blk 0 rfl) (p4_z Q) Try.underlying34 (m := 4) (by kernel_rfl) (num_length _) ?_)
      | ((with_reducible refine (HI.out _).mono ?_); rintro e w1 ⟨rfl, hb⟩; have S1 := Aside0.mk (S.out.step hb); clear hb)
      | (refine st_arr rfl 34 (.tmp 3) (.tmp 7) rfl w1.heap.size (xs := num i) rfl rfl (blk_new w1 (.cells (arr .u64 z4) 34)) (m := 4) (by kernel_rfl) (num_length _) (by rw [num_length]; rfl) ?_; intro w2 h1 h2 h4 h3; have G2 := Aside0.mk h1; have S2 := Aside0.mk (St.other (S1.out.alloc (.cells (arr .u64 z4) 34)) h2 h3 S1.out.size); clear h1 h2 h3 h4)
      | ((with_reducible refine gate_dst (N := 9) rfl ?_); refine ldm_arr rfl 34 (.tmp 8) rfl w.heap.size 4 rfl (num Q.y) (S2.out.blk 0 rfl) (p4_y Q) Try.underlying34 (m := 4) (by kernel_rfl) (num_length _) ?_)
      | ((with_reducible refine gate_dst (N := 10) rfl ?_); refine ld_arr rfl 34 (.tmp 3) rfl w1.heap.size rfl G2.out Try.underlying34 (m := 4) (by kernel_rfl) (num_length _) ?_)
      | ((with_reducible refine (HY.out _).mono ?_); rintro e w3 ⟨rfl, hb⟩; have S3 := Aside0.mk (S2.out.step hb); have G3 := Aside0.mk (blk_below G2.out hb); clear hb)
      | ((with_reducible refine (HB.out _).mono ?_); rintro e w4 ⟨v, rfl, hR, hb⟩; have S4 := Aside0.mk (S3.out.step hb); have G4 := Aside0.mk (blk_below G3.out hb); obtain ⟨go, co, eo, gb, _, _⟩ := Kd.R_form hR (by rw [limbs_length]; decide); rw [limbs_length] at eo; subst eo; have HR := Aside0.mk (Kd.R_lower hR (below_size S3.out.below)); have GB := Aside0.mk gb; clear hb hR gb)
      | ((with_reducible refine gate_dst (N := 14) rfl ?_); refine ldm_arr rfl 34 (.tmp 13) rfl w.heap.size 0 rfl (num Q.x) (S4.out.blk 0 rfl) (p4_x Q) Try.underlying34 (m := 4) (by kernel_rfl) (num_length _) ?_)
      | ((with_reducible refine gate_dst (N := 15) rfl ?_); refine ld_arr rfl 34 (.tmp 3) rfl w1.heap.size rfl G4.out Try.underlying34 (m := 4) (by kernel_rfl) (num_length _) ?_)
      | ((with_reducible refine (HX.out _).mono ?_); rintro e w5 ⟨rfl, hb⟩; have S5 := Aside0.mk (S4.out.step hb); have HR5 := Aside0.mk (Kd.R_below HR.out hb); clear hb)
      | ((with_reducible refine (HO.out _).mono ?_); rintro e w6 ⟨rfl, hb⟩; have S6 := Aside0.mk (S5.out.step hb); have HR6 := Aside0.mk (Kd.R_below HR5.out hb); clear hb))
    go_ret
    exact ⟨_, rfl, by rw [EE2.out]; exact HR6.out, S6.out.below⟩
theorem drawn_belowP {w w' : World} (h : Drawn0 w w') : Below w.heap.size w w' := by
  obtain ⟨m, rfl⟩ := h
  exact pw_below_drewN (Below.refl _ _) m
def impl_PointAdd.f (l0 : List Int) (l1 : List Int) : Option (List Int × Int) := if (okP l0 && okB l0) && (okP l1 && okB l1) then some (enc4 (addI (q4 l0) (q4 l1)), 0) else none
set_option maxHeartbeats 4000000 in
set_option maxRecDepth 100000 in
theorem impl_PointAdd.calls (A0 : Option Addr) (c0 : Nat) (l0 : List Int) (A1 : Option Addr) (c1 : Nat) (l1 : List Int) (r1 : List Int) (r2 : Int) (w : World) (hr0 : Kd.C (Kd.int .u8) w A0 l0.length l0) (hc0 : l0.length ≤ c0) (hr1 : Kd.C (Kd.int .u8) w A1 l1.length l1) (hc1 : l1.length ≤ c1) (h : impl_PointAdd.f l0 l1 = some (r1, r2)) :
    Calls Try.prog 5 #[.slice A0 l0.length c0, .slice A1 l1.length c1] w fun e w' => ∃ v0_ : Value, e = .returned (.tuple #[v0_, .int .i64 r2]) ∧ Kd.R (Kd.int .u8) 5 w' w.heap.size (fun _ => True) v0_ r1 ∧ Below w.heap.size w w' := by
  unfold impl_PointAdd.f at h
  by_cases ho : ((okP l0 && okB l0) && (okP l1 && okB l1)) = true
  · rw [if_pos ho] at h
    simp only [Option.some.injEq, Prod.mk.injEq] at h
    obtain ⟨rfl, rfl⟩ := h
    simp only [Bool.and_eq_true] at ho
    obtain ⟨⟨ho0, hb0⟩, ho1, hb1⟩ := ho
    have e0 := okP_32 l0 ho0
    have e1 := okP_32 l1 ho1
    have H0 := Aside0.mk (fun W (hb : Below w.heap.size w W) => impl_isShort_byte.calls A0 c0 l0 true W (Kd.C_below hr0 hb) hc0 (by unfold impl_isShort_byte.f; rw [decide_eq_true (by omega)]))
    have H1 := Aside0.mk (fun W (hb : Below w.heap.size w W) => impl_isShort_byte.calls A1 c1 l1 true W (Kd.C_below hr1 hb) hc1 (by unfold impl_isShort_byte.f; rw [decide_eq_true (by omega)]))
    have P0 := Aside0.mk (fun W (hb : Below w.heap.size w W) => (show Calls Try.prog 15 #[.slice A0 l0.length c0] W fun e w' => e = .returned (.tuple #[.agg (arr .u64 (p4 (q4 l0))), .bool true]) ∧ Below W.heap.size W w' from by have h := impl_pointOf.calls A0 c0 l0 W (Kd.C_below hr0 hb) hc0 hb0; rw [ptV_q4 l0 ho0, ho0] at h; exact h))
    have P1 := Aside0.mk (fun W (hb : Below w.heap.size w W) => (show Calls Try.prog 15 #[.slice A1 l1.length c1] W fun e w' => e = .returned (.tuple #[.agg (arr .u64 (p4 (q4 l1))), .bool true]) ∧ Below W.heap.size W w' from by have h := impl_pointOf.calls A1 c1 l1 W (Kd.C_below hr1 hb) hc1 hb1; rw [ptV_q4 l1 ho1, ho1] at h; exact h))
    have HA := Aside0.mk (fun W => impl_point_plus.calls (q4 l0) (q4 l1) W (q4_lt l0 ho0) (q4_lt l1 ho1))
    have HB := Aside0.mk (fun W => impl_point_bytes.calls (addI (q4 l0) (q4 l1)) W (add_lt _ _))
    clear hr0 hr1 hc0 hc1 ho0 ho1 hb0 hb1
    generalize addI (q4 l0) (q4 l1) = R at *
    generalize q4 l0 = X at *
    generalize q4 l1 = Y at *
    rw [e0, e1] at *
    have S := Aside0.mk (St.start w)
    go_enter Try.func5, Try.ntmps5
    go_wp2_with (first
      | ((with_reducible refine (H0.out _ S.out.below).mono ?_); rintro e w1 ⟨rfl, hb⟩; have S1 := Aside0.mk (S.out.step (drawn_belowP hb)); clear hb)
      | ((with_reducible refine (H1.out _ S1.out.below).mono ?_); rintro e w2 ⟨rfl, hb⟩; have S2 := Aside0.mk (S1.out.step (drawn_belowP hb)); clear hb)
      | ((with_reducible refine (P0.out _ S2.out.below).mono ?_); rintro e w3 ⟨rfl, hb⟩; have S3 := Aside0.mk (S2.out.step hb); clear hb)
      | (refine st_arr rfl 36 (.tmp 6) (.tmp 21) rfl w3.heap.size (xs := p4 X) rfl rfl (blk_new w3 (.cells (arr .u64 z16) 36)) (m := 16) (by kernel_rfl) (p4_length _) (by rw [p4_length]; rfl) ?_; intro w3' h1 h2 h4 h3; have G4 := Aside0.mk h1; have S4 := Aside0.mk (St.other (S3.out.alloc (.cells (arr .u64 z16) 36)) h2 h3 S3.out.size); clear h1 h2 h3 h4)
      | ((with_reducible refine (P1.out _ S4.out.below).mono ?_); rintro e w5 ⟨rfl, hb⟩; have S5 := Aside0.mk (S4.out.step hb); have G5 := Aside0.mk (blk_below G4.out hb); clear hb)
      | (refine st_arr rfl 36 (.tmp 8) (.tmp 26) rfl w5.heap.size (xs := p4 Y) rfl rfl (blk_new w5 (.cells (arr .u64 z16) 36)) (m := 16) (by kernel_rfl) (p4_length _) (by rw [p4_length]; rfl) ?_; intro w5' h1 h2 h4 h3; have G6 := Aside0.mk h1; have S6 := Aside0.mk (St.other (S5.out.alloc (.cells (arr .u64 z16) 36)) h2 h3 S5.out.size); have G5' := Aside0.mk ((h2 _ (ne_of_blk G5.out)).trans (blk_alloc G5.out _)); clear h1 h2 h3 h4)
      | ((with_reducible refine gate_dst (N := 34) rfl ?_); refine ld_any rfl 36 (.tmp 6) rfl w3.heap.size rfl G5'.out Try.underlying36 rfl (m := 16) (by kernel_rfl) (p4_length _) ?_)
      | ((with_reducible refine gate_dst (N := 35) rfl ?_); refine ld_any rfl 36 (.tmp 8) rfl w5.heap.size rfl G6.out Try.underlying36 rfl (m := 16) (by kernel_rfl) (p4_length _) ?_)
      | ((with_reducible refine (HA.out _).mono ?_); rintro e w7 ⟨rfl, hb⟩; have S7 := Aside0.mk (S6.out.step hb); clear hb)
      | ((with_reducible refine (HB.out _).mono ?_); rintro e w8 ⟨v, rfl, hR, hb⟩; have S8 := Aside0.mk (S7.out.step hb); have HR := Aside0.mk (Kd.R_lower hR (below_size S7.out.below)); clear hb hR))
    go_ret2
    exact ⟨_, rfl, HR.out, S8.out.below⟩
  · rw [if_neg ho] at h; cases h
def spec_PointAdd.f (l0 : List Int) (l1 : List Int) : Option (List Int × Int) := if (okP l0 && okB l0) && (okP l1 && okB l1) then some (enc4 (FldOpsS.addS (q4 l0) (q4 l1) (fa EdP.dN EdP.dN)), 0) else none
set_option maxHeartbeats 4000000 in
set_option maxRecDepth 100000 in
theorem spec_PointAdd.calls (A0 : Option Addr) (c0 : Nat) (l0 : List Int) (A1 : Option Addr) (c1 : Nat) (l1 : List Int) (r1 : List Int) (r2 : Int) (w : World) (hr0 : Kd.C (Kd.int .u8) w A0 l0.length l0) (hc0 : l0.length ≤ c0) (hr1 : Kd.C (Kd.int .u8) w A1 l1.length l1) (hc1 : l1.length ≤ c1) (h : spec_PointAdd.f l0 l1 = some (r1, r2)) :
    Calls Try.prog 6 #[.slice A0 l0.length c0, .slice A1 l1.length c1] w fun e w' => ∃ v0_ : Value, e = .returned (.tuple #[v0_, .int .i64 r2]) ∧ Kd.R (Kd.int .u8) 5 w' w.heap.size (fun _ => True) v0_ r1 ∧ Below w.heap.size w w' := by
  unfold spec_PointAdd.f at h
  by_cases ho : ((okP l0 && okB l0) && (okP l1 && okB l1)) = true
  · rw [if_pos ho] at h
    simp only [Option.some.injEq, Prod.mk.injEq] at h
    obtain ⟨rfl, rfl⟩ := h
    simp only [Bool.and_eq_true] at ho
    obtain ⟨⟨ho0, hb0⟩, ho1, hb1⟩ := ho
    have P0 := Aside0.mk (fun W (hb : Below w.heap.size w W) => point1_ok A0 c0 l0 W (Kd.C_below hr0 hb) hc0 hb0 ho0)
    have P1 := Aside0.mk (fun W (hb : Below w.heap.size w W) => point1_ok A1 c1 l1 W (Kd.C_below hr1 hb) hc1 hb1 ho1)
    have HD := Aside0.mk (fun W => spec_l05D.calls W)
    have HA := Aside0.mk (fun x y W (hx : x < BB) (hy : y < BB) => spec_l05Add.calls x y W hx hy)
    have HB := Aside0.mk (fun R W (h : LtB R) => spec_l05PointBytes.calls R W h)
    clear hr0 hr1 hc0 hc1 ho0 ho1 hb0 hb1
    generalize q4 l0 = X at *
    generalize q4 l1 = Y at *
    obtain ⟨rz, hrz⟩ : ∃ rz, rz = enc4 (FldOpsS.addS X Y (fa EdP.dN EdP.dN)) := ⟨_, rfl⟩
    rw [← hrz]
    have HZ := Aside0.mk hrz
    clear hrz
    have S := Aside0.mk (St.start w)
    go_enter Try.func6, Try.ntmps6
    go_wp2_with (first
      | ((with_reducible refine (P0.out _ S.out.below).mono ?_); rintro e w1 ⟨P, hP, mP, rfl, hb⟩; have HP := Aside0.mk hP; have MP := Aside0.mk mP; have S := Aside0.mk (S.out.step hb); clear hb hP mP)
      | (refine st_arr rfl 43 (.tmp 6) (.tmp 13) rfl w1.heap.size (xs := feP P.x P.y P.z P.t) rfl rfl (blk_new w1 (.cells (arr .i64 zP) 43)) (m := 64) (by kernel_rfl) (feP_length _ _ _ _) (by rw [feP_length]; rfl) ?_; intro w1' h1 h2 h4 h3; have GP := Aside0.mk h1; have S := Aside0.mk (St.other (S.out.alloc (.cells (arr .i64 zP) 43)) h2 h3 S.out.size); clear h1 h2 h3 h4)
      | ((with_reducible refine (P1.out _ S.out.below).mono ?_); rintro e w2 ⟨Q, hQ, mQ, rfl, hb⟩; have HQ := Aside0.mk hQ; have MQ := Aside0.mk mQ; have S := Aside0.mk (S.out.step hb); have GP := Aside0.mk (blk_below GP.out hb); clear hb hQ mQ)
      | (refine st_arr rfl 43 (.tmp 8) (.tmp 18) rfl w2.heap.size (xs := feP Q.x Q.y Q.z Q.t) rfl rfl (blk_new w2 (.cells (arr .i64 zP) 43)) (m := 64) (by kernel_rfl) (feP_length _ _ _ _) (by rw [feP_length]; rfl) ?_; intro w2' h1 h2 h4 h3; have GQ := Aside0.mk h1; have GP := Aside0.mk ((h2 _ (ne_of_blk GP.out)).trans (blk_alloc GP.out _)); have S := Aside0.mk (St.other (S.out.alloc (.cells (arr .i64 zP) 43)) h2 h3 S.out.size); clear h1 h2 h3 h4))
    have HPL := Aside0.mk (fun d W (hd : d < BB) => spec_l05Plus.calls P Q d W HP.out HQ.out hd)
    obtain ⟨g6, hg6⟩ : ∃ g, g = w1.heap.size := ⟨_, rfl⟩
    obtain ⟨g8, hg8⟩ : ∃ g, g = w2.heap.size := ⟨_, rfl⟩
    rw [← hg6] at GP
    rw [← hg8] at GQ
    rw [← hg6, ← hg8]
    have GP := Aside0.mk (blk_drew GP.out)
    have GQ := Aside0.mk (blk_drew GQ.out)
    have B := Aside0.mk (below_drew S.out.below)
    clear hg6 hg8
    refine start_ (n := 9) (S := fun w' => w'.heap[g6]? = some (.cells (arr .i64 (feP P.x P.y P.z P.t)) 43 (0, 0)) ∧ w'.heap[g8]? = some (.cells (arr .i64 (feP Q.x Q.y Q.z Q.t)) 43 (0, 0))) (ds := []) #[false, false, false, false, false, false, false, false, false] (by kernel_rfl) rfl rfl ⟨GP.out, GQ.out⟩ (fun hHeld => ?_)
    refine take_ (i := 0) (N := some 27) (v := ?_) (a' := ?_) #[true, false, false, false, false, false, false, false, false] rfl rfl (by kernel_rfl) (fun _ _ _ h => h) (Or.inl ⟨by rfl, ?_⟩) hHeld ?_ ?_
    rotate_left
    · rintro w' ⟨s0, s1⟩
      refine (run_any 43 (.tmp 6) (by rfl) g6 (by rfl) s0 Try.underlying43 rfl (m := 64) (by kernel_rfl) (feP_length _ _ _ _)).trans ?_; with_reducible rfl
    rotate_left
    · simp only [Act.put, OpenRow.s1, OpenRow.s2, OpenRow.s3, i64_w, i32_w]; rfl
    refine take_ (i := 1) (N := some 28) (v := ?_) (a' := ?_) #[true, true, false, false, false, false, false, false, false] rfl rfl (by kernel_rfl) (fun _ _ _ h => h) (Or.inl ⟨by rfl, ?_⟩) hHeld ?_ ?_
    rotate_left
    · rintro w' ⟨s0, s1⟩
      refine (run_any 43 (.tmp 8) (by rfl) g8 (by rfl) s1 Try.underlying43 rfl (m := 64) (by kernel_rfl) (feP_length _ _ _ _)).trans ?_; with_reducible rfl
    rotate_left
    · simp only [Act.put, OpenRow.s1, OpenRow.s2, OpenRow.s3, i64_w, i32_w]; rfl
    refine one_ (i := 2) (N := some 29) #[true, true, true, false, false, false, false, false, false] rfl rfl (by kernel_rfl) (by decide) (fun K hK => ?_)
    refine goes_ Try.func22 (by kernel_rfl) rfl #[] (by rfl) rfl rfl (by simp only [List.map_toArray, List.map_cons, List.map_nil] <;> rfl) ?_
    with_reducible refine (HD.out _).mono ?_
    rintro e w3 ⟨d1, hd1, md1, rfl, hb⟩
    refine ⟨_, rfl, ?_⟩
    have GP1 := Aside0.mk (blk_below GP.out hb)
    have GQ1 := Aside0.mk (blk_below GQ.out hb)
    have B1 := Aside0.mk (below_step B.out hb)
    have Hd1 := Aside0.mk hd1
    have Md1 := Aside0.mk md1
    clear hb hd1 md1
    refine hK.out _ _ ⟨GP1.out, GQ1.out⟩ (fun hHeld => ?_)
    clear hK K
    refine norm_ (a' := ?_) ?_ ?_
    rotate_left
    · show Act.put _ (some 29) _ = _
      simp only [Act.put, OpenRow.s1, OpenRow.s2, OpenRow.s3, i64_w, i32_w]
      rfl
    refine one_ (i := 3) (N := some 30) #[true, true, true, true, false, false, false, false, false] rfl rfl (by kernel_rfl) (by decide) (fun K hK => ?_)
    refine goes_ Try.func22 (by kernel_rfl) rfl #[] (by rfl) rfl rfl (by simp only [List.map_toArray, List.map_cons, List.map_nil] <;> rfl) ?_
    with_reducible refine (HD.out _).mono ?_
    rintro e w3 ⟨d2, hd2, md2, rfl, hb⟩
    refine ⟨_, rfl, ?_⟩
    have GP2 := Aside0.mk (blk_below GP1.out hb)
    have GQ2 := Aside0.mk (blk_below GQ1.out hb)
    have B2 := Aside0.mk (below_step B1.out hb)
    have Hd2 := Aside0.mk hd2
    have Md2 := Aside0.mk md2
    clear hb hd2 md2
    refine hK.out _ _ ⟨GP2.out, GQ2.out⟩ (fun hHeld => ?_)
    clear hK K
    refine norm_ (a' := ?_) ?_ ?_
    rotate_left
    · show Act.put _ (some 30) _ = _
      simp only [Act.put, OpenRow.s1, OpenRow.s2, OpenRow.s3, i64_w, i32_w]
      rfl
    refine one_ (i := 4) (N := some 31) #[true, true, true, true, true, false, false, false, false] rfl rfl (by kernel_rfl) (by decide) (fun K hK => ?_)
    refine goes_ Try.func21 (by kernel_rfl) rfl #[.agg (arr .i64 (fe d1)), .agg (arr .i64 (fe d2))] (by rfl) rfl rfl (by simp only [List.map_toArray, List.map_cons, List.map_nil] <;> rfl) ?_
    with_reducible refine (HA.out _ _ _ Hd1.out Hd2.out).mono ?_
    rintro e w3 ⟨dd, hdd, mdd, rfl, hb⟩
    refine ⟨_, rfl, ?_⟩
    have GP3 := Aside0.mk (blk_below GP2.out hb)
    have GQ3 := Aside0.mk (blk_below GQ2.out hb)
    have B3 := Aside0.mk (below_step B2.out hb)
    have Hdd := Aside0.mk hdd
    have Mdd := Aside0.mk (show dd % FldB.PP = fa EdP.dN EdP.dN by rw [add_res d1 d2 dd mdd, Md1.out, Md2.out]; decide +kernel)
    clear hb hdd mdd
    refine hK.out _ _ ⟨GP3.out, GQ3.out⟩ (fun hHeld => ?_)
    clear hK K
    refine norm_ (a' := ?_) ?_ ?_
    rotate_left
    · show Act.put _ (some 31) _ = _
      simp only [Act.put, OpenRow.s1, OpenRow.s2, OpenRow.s3, i64_w, i32_w]
      rfl
    refine one_ (i := 5) (N := some 32) #[true, true, true, true, true, true, false, false, false] rfl rfl (by kernel_rfl) (by decide) (fun K hK => ?_)
    refine goes_ Try.func20 (by kernel_rfl) rfl #[.agg (arr .i64 (feP P.x P.y P.z P.t)), .agg (arr .i64 (feP Q.x Q.y Q.z Q.t)), .agg (arr .i64 (fe dd))] (by rfl) rfl rfl (by simp only [List.map_toArray, List.map_cons, List.map_nil] <;> rfl) ?_
    with_reducible refine (HPL.out _ _ Hdd.out).mono ?_
    rintro e w3 ⟨R, hR1, mR, rfl, hb⟩
    refine ⟨_, rfl, ?_⟩
    have GP4 := Aside0.mk (blk_below GP3.out hb)
    have GQ4 := Aside0.mk (blk_below GQ3.out hb)
    have B4 := Aside0.mk (below_step B3.out hb)
    have HR1 := Aside0.mk hR1
    have MR := Aside0.mk mR
    clear hb hR1 mR
    refine hK.out _ _ ⟨GP4.out, GQ4.out⟩ (fun hHeld => ?_)
    clear hK K
    refine norm_ (a' := ?_) ?_ ?_
    rotate_left
    · show Act.put _ (some 32) _ = _
      simp only [Act.put, OpenRow.s1, OpenRow.s2, OpenRow.s3, i64_w, i32_w]
      rfl
    refine one_ (i := 6) (N := some 33) #[true, true, true, true, true, true, true, false, false] rfl rfl (by kernel_rfl) (by decide) (fun K hK => ?_)
    refine goes_ Try.func19 (by kernel_rfl) rfl #[.agg (arr .i64 (feP R.x R.y R.z R.t))] (by rfl) rfl rfl (by simp only [List.map_toArray, List.map_cons, List.map_nil] <;> rfl) ?_
    with_reducible refine (HB.out _ _ HR1.out).mono ?_
    rintro e w3 ⟨v, rfl, hR, hb⟩
    refine ⟨_, rfl, ?_⟩
    have GP5 := Aside0.mk (blk_below GP4.out hb)
    have GQ5 := Aside0.mk (blk_below GQ4.out hb)
    have B5 := Aside0.mk (below_step B4.out hb)
    have HR := Aside0.mk (Kd.R_lower hR (below_size B4.out))
    clear hb hR
    refine hK.out _ _ ⟨GP5.out, GQ5.out⟩ (fun hHeld => ?_)
    clear hK K
    refine norm_ (a' := ?_) ?_ ?_
    rotate_left
    · show Act.put _ (some 33) _ = _
      simp only [Act.put, OpenRow.s1, OpenRow.s2, OpenRow.s3, i64_w, i32_w]
      rfl
    refine pure_ (i := 7) (N := some 4) (v := ?_) (a' := ?_) #[true, true, true, true, true, true, true, true, false] rfl rfl (by kernel_rfl) (fun _ _ _ h => h) (Or.inl ⟨by rfl, ?_⟩) ?_ ?_
    rotate_left
    · intro w'; go_simp; with_reducible rfl
    rotate_left
    · simp only [Act.put, OpenRow.s1, OpenRow.s2, OpenRow.s3, i64_w, i32_w]; rfl
    refine pure_ (i := 8) (N := some 5) (v := ?_) (a' := ?_) #[true, true, true, true, true, true, true, true, true] rfl rfl (by kernel_rfl) (fun _ _ _ h => h) (Or.inl ⟨by rfl, ?_⟩) ?_ ?_
    rotate_left
    · intro w'; go_simp; with_reducible rfl
    rotate_left
    · simp only [Act.put, OpenRow.s1, OpenRow.s2, OpenRow.s3, i64_w, i32_w]; rfl
    refine done_ (by kernel_rfl) ?_
    (repeat go_step)
    go_ret2
    exact ⟨_, rfl, by rw [HZ.out]; have h_ := HR.out; rw [MR.out, MP.out, MQ.out, Mdd.out] at h_; exact h_, B5.out⟩
  · rw [if_neg ho] at h; cases h
def impl_PointOK.f (l0 : List Int) : Option (Bool) := if okB l0 then some (okP l0) else none
theorem ptV_length (l : List Int) : (ptV l).length = 16 := by
  unfold ptV; split
  · exact ptL_length _ _ _ _
  · rfl
set_option maxHeartbeats 1000000 in
set_option maxRecDepth 100000 in
theorem impl_PointOK.calls (A0 : Option Addr) (c0 : Nat) (l0 : List Int) (r : Bool) (w : World) (hr0 : Kd.C (Kd.int .u8) w A0 l0.length l0) (hc0 : l0.length ≤ c0) (h : impl_PointOK.f l0 = some r) :
    Calls Try.prog 7 #[.slice A0 l0.length c0] w fun e w' => e = .returned (.bool r) ∧ Below w.heap.size w w' := by
  unfold impl_PointOK.f at h
  by_cases ho : okB l0 = true
  · rw [if_pos ho] at h
    obtain rfl := Option.some.inj h
    clear h
    have HP := Aside0.mk (impl_pointOf.calls A0 c0 l0 w hr0 hc0 ho)
    have HL := Aside0.mk (ptV_length l0)
    clear hr0 hc0 ho
    generalize okP l0 = ok at *
    generalize ptV l0 = xs at *
    go_enter Try.func7, Try.ntmps7
    go_wp2_with (first
      | ((with_reducible refine (HP.out).mono ?_); rintro e w1 ⟨rfl, hb⟩; have B1 := Aside0.mk hb; clear hb)
      | (refine st_arr rfl 36 (.tmp 3) (.tmp 8) rfl w1.heap.size (xs := xs) rfl rfl (blk_new w1 (.cells (arr .u64 zL) 36)) (m := 16) (by kernel_rfl) HL.out (by rw [HL.out]; rfl) ?_; intro w2 h1 h2 h4 h3; have B2 := Aside0.mk (h3 _ _ (below_alloc B1.out _) B1.out.size); clear h1 h2 h3 h4))
    go_ret
    exact ⟨rfl, B2.out⟩
  · rw [if_neg ho] at h; cases h
def spec_l05Order.f  : Option (List Int) := some (([237, 211, 245, 92, 26, 99, 18, 88, 214, 156, 247, 162, 222, 249, 222, 20, 0, 0, 0, 0, 0, 0, 0, 0, 0, 0, 0, 0, 0, 0, 0, 16] : List Int))
set_option maxHeartbeats 8000000 in
set_option maxRecDepth 100000 in
theorem spec_l05Order.calls  (r : List Int) (w : World) (h : spec_l05Order.f  = some r) :
    Calls Try.prog 80 #[] w fun e w' => ∃ v0_ : Value, e = .returned (v0_) ∧ Kd.R (Kd.int .u8) 5 w' w.heap.size (fun _ => True) v0_ r ∧ Below w.heap.size w w' := by
  have HB := Aside0.mk (Below.refl w.heap.size w)
  have H : (some (([237, 211, 245, 92, 26, 99, 18, 88, 214, 156, 247, 162, 222, 249, 222, 20, 0, 0, 0, 0, 0, 0, 0, 0, 0, 0, 0, 0, 0, 0, 0, 16] : List Int))) = some r := h
  clear h
  obtain ⟨y101, hy101⟩ : ∃ y_ : List Int, y_ = (([237, 211, 245, 92, 26, 99, 18, 88, 214, 156, 247, 162, 222, 249, 222, 20, 0, 0, 0, 0, 0, 0, 0, 0, 0, 0, 0, 0, 0, 0, 0, 16] : List Int)) := ⟨_, rfl⟩
  replace H : (some y101) = some r := by first | (rw [hy101]; with_reducible exact H) | (have H2_ := (Option.bind_some _ _).symm.trans H; rw [hy101]; with_reducible exact H2_) | (have H2_ := (Option.bind_some _ _).symm.trans H; with_reducible exact H2_) | with_reducible exact H | (rw [hy101]; exact H) | exact H
  have Ny101 := Aside0.mk hy101
  clear hy101
  obtain rfl := Option.some.inj H
  go_enter Try.func80, Try.ntmps80
  go_wp2_with (first | ((with_reducible refine gate_dst (N := 1) rfl ?_); refine Kd.R_lit (Kd.int .u8) _ 5 ?hg (N := 1) ?hd (xs := ([237, 211, 245, 92, 26, 99, 18, 88, 214, 156, 247, 162, 222, 249, 222, 20, 0, 0, 0, 0, 0, 0, 0, 0, 0, 0, 0, 0, 0, 0, 0, 16] : List Int)) (inner := [.int .u8 237, .int .u8 211, .int .u8 245, .int .u8 92, .int .u8 26, .int .u8 99, .int .u8 18, .int .u8 88, .int .u8 214, .int .u8 156, .int .u8 247, .int .u8 162, .int .u8 222, .int .u8 249, .int .u8 222, .int .u8 20, .int .u8 0, .int .u8 0, .int .u8 0, .int .u8 0, .int .u8 0, .int .u8 0, .int .u8 0, .int .u8 0, .int .u8 0, .int .u8 0, .int .u8 0, .int .u8 0, .int .u8 0, .int .u8 0, .int .u8 0, .int .u8 16]) (ok := fun _ => True) (okp := fun _ => True) ?hr ?hp (fun _ hk => hk) trivial (Below.refl _ _) (Nat.le_refl _) (by simp) ?_; (case hd => rfl); (case hg => rfl); (case hr => first | (go_simp; done) | (go_simp; rfl)); (case hp => exact (Reps.one (show Kd.M (Kd.int .u8) _ _ _ 237 [.int .u8 237] from rfl) (Reps.one (show Kd.M (Kd.int .u8) _ _ _ 211 [.int .u8 211] from rfl) (Reps.one (show Kd.M (Kd.int .u8) _ _ _ 245 [.int .u8 245] from rfl) (Reps.one (show Kd.M (Kd.int .u8) _ _ _ 92 [.int .u8 92] from rfl) (Reps.one (show Kd.M (Kd.int .u8) _ _ _ 26 [.int .u8 26] from rfl) (Reps.one (show Kd.M (Kd.int .u8) _ _ _ 99 [.int .u8 99] from rfl) (Reps.one (show Kd.M (Kd.int .u8) _ _ _ 18 [.int .u8 18] from rfl) (Reps.one (show Kd.M (Kd.int .u8) _ _ _ 88 [.int .u8 88] from rfl) (Reps.one (show Kd.M (Kd.int .u8) _ _ _ 214 [.int .u8 214] from rfl) (Reps.one (show Kd.M (Kd.int .u8) _ _ _ 156 [.int .u8 156] from rfl) (Reps.one (show Kd.M (Kd.int .u8) _ _ _ 247 [.int .u8 247] from rfl) (Reps.one (show Kd.M (Kd.int .u8) _ _ _ 162 [.int .u8 162] from rfl) (Reps.one (show Kd.M (Kd.int .u8) _ _ _ 222 [.int .u8 222] from rfl) (Reps.one (show Kd.M (Kd.int .u8) _ _ _ 249 [.int .u8 249] from rfl) (Reps.one (show Kd.M (Kd.int .u8) _ _ _ 222 [.int .u8 222] from rfl) (Reps.one (show Kd.M (Kd.int .u8) _ _ _ 20 [.int .u8 20] from rfl) (Reps.one (show Kd.M (Kd.int .u8) _ _ _ 0 [.int .u8 0] from rfl) (Reps.one (show Kd.M (Kd.int .u8) _ _ _ 0 [.int .u8 0] from rfl) (Reps.one (show Kd.M (Kd.int .u8) _ _ _ 0 [.int .u8 0] from rfl) (Reps.one (show Kd.M (Kd.int .u8) _ _ _ 0 [.int .u8 0] from rfl) (Reps.one (show Kd.M (Kd.int .u8) _ _ _ 0 [.int .u8 0] from rfl) (Reps.one (show Kd.M (Kd.int .u8) _ _ _ 0 [.int .u8 0] from rfl) (Reps.one (show Kd.M (Kd.int .u8) _ _ _ 0 [.int .u8 0] from rfl) (Reps.one (show Kd.M (Kd.int .u8) _ _ _ 0 [.int .u8 0] from rfl) (Reps.one (show Kd.M (Kd.int .u8) _ _ _ 0 [.int .u8 0] from rfl) (Reps.one (show Kd.M (Kd.int .u8) _ _ _ 0 [.int .u8 0] from rfl) (Reps.one (show Kd.M (Kd.int .u8) _ _ _ 0 [.int .u8 0] from rfl) (Reps.one (show Kd.M (Kd.int .u8) _ _ _ 0 [.int .u8 0] from rfl) (Reps.one (show Kd.M (Kd.int .u8) _ _ _ 0 [.int .u8 0] from rfl) (Reps.one (show Kd.M (Kd.int .u8) _ _ _ 0 [.int .u8 0] from rfl) (Reps.one (show Kd.M (Kd.int .u8) _ _ _ 0 [.int .u8 0] from rfl) (Reps.one (show Kd.M (Kd.int .u8) _ _ _ 16 [.int .u8 16] from rfl) (Reps.none _ _)))))))))))))))))))))))))))))))))); intro v102 w1 ho2 hb hg_ hnew_; clear hg_ hnew_; (first | rw [← Ny101.out] at ho2 | (simp only [Int.reduceToNat] at ho2; rw [← Ny101.out] at ho2)); have n0_ := Aside0.mk (Kd.R_lower ho2 (below_size (by repeat (first | (with_reducible first | exact HB.out | apply below_alloc | apply pw_below_drewN | apply below_drew1) | exact HB.out)))); have n1_ := Aside0.mk (below_step (by repeat (first | (with_reducible first | exact HB.out | apply below_alloc | apply pw_below_drewN | apply below_drew1) | exact HB.out)) hb); clear HB; have HO103 := n0_; have HB := n1_; clear n0_ n1_; clear hb ho2))
  go_ret
  exact ⟨_, by first | rfl | (simp [errW_none, errW_some] <;> rfl) | (simp [*, errW_none, errW_some] <;> rfl), by (with_reducible repeat (first | apply Kd.R_alloc | apply Kd.R_drewN | apply Kd.R_drew)); exact HO103.out, by repeat (first | (with_reducible first | exact HB.out | apply below_alloc | apply pw_below_drewN | apply below_drew1) | exact HB.out)⟩
end Go.Proofs.Ytlajcahlmbjmnaa.XQ
