-- Written by a program of this session (xp.py over the kit's printer, with functions proved by hand). Lean checks it.
import Derived.Test.YtijeackkgcnbgaaXHx0
import Derived.Test.YtijeackkgcnbgaaXHx1
import Derived.Test.YtijeackkgcnbgaaXHx3
import Derived.Test.YtijeackkgcnbgaaXHx7
namespace Go.Proofs.Ytijeackkgcnbgaa.XH
open Go.Proofs.Ytijeackkgcnbgaa.Limb Go.Proofs.Ytijeackkgcnbgaa.Arr Go.Proofs.Ytijeackkgcnbgaa.FldA Go.Proofs.Ytijeackkgcnbgaa.FldB Go.Proofs.Ytijeackkgcnbgaa.FldC Go.Proofs.Ytijeackkgcnbgaa.FldS Go.Proofs.Ytijeackkgcnbgaa.FldP Go.Proofs.Ytijeackkgcnbgaa.FldW Go.Proofs.Ytijeackkgcnbgaa.FldM Go.Proofs.Ytijeackkgcnbgaa.FldT Go.Proofs.Ytijeackkgcnbgaa.FldRoot Go.Proofs.Ytijeackkgcnbgaa.FldRoot2 Go.Proofs.Ytijeackkgcnbgaa.St Go.Proofs.Ytijeackkgcnbgaa.StOps Go.Proofs.Ytijeackkgcnbgaa.StMid Go.Proofs.Ytijeackkgcnbgaa.StEq Go.Proofs.Ytijeackkgcnbgaa.StIdx Go.Proofs.Ytijeackkgcnbgaa.StSrc
open Go.RowKit Go.Proofs.YtijeackkgcnbgaaW.PrintWords Go.Proofs.YtijeackkgcnbgaaW.PrintLast Go.Proofs.YtijeackkgcnbgaaW.PrintMore
attribute [local go_sem] max2_int min2_int max_two min_two max_three min_three max_four min_four   -- for this text's walks alone
set_option linter.unusedVariables false
set_option linter.unusedSimpArgs false

/-! ### impl_element_root: function 73 -/
set_option maxHeartbeats 4000000 in
set_option maxRecDepth 100000 in
theorem impl_element_root.calls (a : Nat) (w : World) (ha : a < PP) :
    Calls Try.prog 73 #[.agg (arr .u64 (num a))] w fun e w' => e = .returned (.tuple #[.agg (arr .u64 (num (if rtOk a = true then rtV a else 0))), .bool (rtOk a)]) ∧ Below w.heap.size w w' := by
  have hPB : PP < BB := by decide
  have HW := Aside0.mk (fun W => (show Calls Try.prog 96 #[.agg (arr .u64 (num a)), .agg #[.int .u64 18446744073709551614, .int .u64 18446744073709551615, .int .u64 18446744073709551615, .int .u64 1152921504606846975]] W _ from by
    have h := impl_element_power.calls a eR W (Nat.lt_trans ha hPB) (by decide)
    rw [num_eR] at h
    exact h))
  obtain ⟨x, hx⟩ : ∃ x, x = rt0 a := ⟨_, rfl⟩
  obtain ⟨z, hz⟩ : ∃ z, z = rt1 a := ⟨_, rfl⟩
  have HXx := Aside0.mk (show x < PP by rw [hx]; exact rt0_lt a)
  have HXz := Aside0.mk (show z < PP by rw [hz]; exact rt1_lt a)
  have HMx := Aside0.mk (fun W => impl_element_times.calls x x W (Nat.lt_trans HXx.out hPB) (Nat.lt_trans HXx.out hPB))
  have HMz := Aside0.mk (fun W => impl_element_times.calls z z W (Nat.lt_trans HXz.out hPB) (Nat.lt_trans HXz.out hPB))
  have HMi := Aside0.mk (fun W => impl_element_times.calls x imaginaryN W (Nat.lt_trans HXx.out hPB) (by decide))
  rw [show a ^ eR % PP = x from hx.symm] at HW
  have E1 := Aside0.mk (show z = if x * x % PP = a then x else x * imaginaryN % PP by rw [hz, hx]; rfl)
  have EO := Aside0.mk (show rtOk a = decide (z * z % PP = a) by rw [hz]; rfl)
  have ER := Aside0.mk hz
  have hEx : ∀ W, (Op.equalIn 10000 44 (.agg (arr .u64 (num (x * x % PP)))) (.agg (arr .u64 (num a)))).run Try.prog W = .ok (decide (x * x % PP = a)) W := fun W => by
    have h := run_eq_arr (P := Try.prog) (w := W) 9998 44 34 4 .u64 .u64 (num (x * x % PP)) (num a) Try.underlying44 (by kernel_rfl) (by kernel_rfl) Try.underlying34 (num_length _) (num_length _)
    rw [num_inj _ _ (Nat.mod_lt _ PP_pos) ha] at h
    exact h
  have hEz : ∀ W, (Op.equalIn 10000 44 (.agg (arr .u64 (num (z * z % PP)))) (.agg (arr .u64 (num a)))).run Try.prog W = .ok (decide (z * z % PP = a)) W := fun W => by
    have h := run_eq_arr (P := Try.prog) (w := W) 9998 44 34 4 .u64 .u64 (num (z * z % PP)) (num a) Try.underlying44 (by kernel_rfl) (by kernel_rfl) Try.underlying34 (num_length _) (num_length _)
    rw [num_inj _ _ (Nat.mod_lt _ PP_pos) ha] at h
    exact h
  clear hx hz hPB ha
  generalize hq : x * x % PP = q at *
  generalize hp : z * z % PP = p at *
  generalize hi : x * imaginaryN % PP = xi at *
  have S := Aside0.mk (((St.start w).push rfl 44 .u64 (num a)).push (World.size_alloc ..) 44 .u64 z4)
  by_cases h0 : q = a
  · have e1 : z = x := by rw [E1.out, if_pos h0]
    have e2 : p = q := by rw [← hp, ← hq, e1]
    have hok : rtOk a = true := by rw [EO.out, e2, decide_eq_true h0]
    rw [hok, if_pos rfl]
    rw [e2, decide_eq_true h0] at hEz
    rw [decide_eq_true h0] at hEx
    rw [e1] at ER
    clear hEz HMz HXz e2 e1 hok hq hp hi h0 E1 EO
    go_enter Try.func73, Try.ntmps73
    go_wp2_with (first
      | ((with_reducible refine gate_dst (N := 5) rfl ?_); refine ld_arr rfl 44 (.tmp 1) rfl w.heap.size rfl (S.out.blk 0 rfl) Try.underlying44 (m := 4) (by kernel_rfl) (num_length _) ?_)
      | ((refine (HW.out _).mono ?_); rintro e w1 ⟨rfl, hb⟩; have S1 := Aside0.mk (S.out.step hb); clear hb)
      | (refine st_arr rfl 44 (.tmp 4) (.tmp 7) rfl w1.heap.size (xs := num x) rfl rfl (blk_new w1 (.cells (arr .u64 z4) 44)) (m := 4) (by kernel_rfl) (num_length _) (by rw [num_length]; rfl) ?_; intro w2 h1 h2 h4 h3; have A0 := Aside0.mk (blk_drew h1); have V0 := Aside0.mk (St.other (S1.out.alloc (.cells (arr .u64 z4) 44)) h2 h3 S1.out.size).drew; clear h1 h2 h3 h4))
    have HG := Aside0.mk S1.out.size
    generalize w1.heap.size = g at *
    clear S1 S
    go_wp2
    refine start_ (n := 5) (S := fun w' => St w [⟨44, .u64, num a⟩, ⟨44, .u64, z4⟩] w' ∧ w'.heap[g]? = some (.cells (arr .u64 (num x)) 44 (0, 0))) (ds := []) #[false, false, false, false, false] (by kernel_rfl) rfl rfl ⟨V0.out, A0.out⟩ (fun hHeld => ?_)
    refine take_ (i := 0) (N := some 8) (v := ?_) (a' := ?_) #[true, false, false, false, false] rfl rfl (by kernel_rfl) (fun _ _ _ h => h) (Or.inl ⟨by rfl, ?_⟩) hHeld ?_ ?_
    rotate_left
    · rintro w' ⟨s0, s1⟩
      refine (run_ld 44 (.tmp 4) (by rfl) g (by rfl) s1 Try.underlying44 (m := 4) (by kernel_rfl) (num_length _)).trans ?_; with_reducible rfl
    rotate_left
    · simp only [Act.put, OpenRow.s1, OpenRow.s2, OpenRow.s3, i64_w, i32_w]; rfl
    refine take_ (i := 1) (N := some 9) (v := ?_) (a' := ?_) #[true, true, false, false, false] rfl rfl (by kernel_rfl) (fun _ _ _ h => h) (Or.inl ⟨by rfl, ?_⟩) hHeld ?_ ?_
    rotate_left
    · rintro w' ⟨s0, s1⟩
      refine (run_ld 44 (.tmp 4) (by rfl) g (by rfl) s1 Try.underlying44 (m := 4) (by kernel_rfl) (num_length _)).trans ?_; with_reducible rfl
    rotate_left
    · simp only [Act.put, OpenRow.s1, OpenRow.s2, OpenRow.s3, i64_w, i32_w]; rfl
    refine take_ (i := 3) (N := some 11) (v := ?_) (a' := ?_) #[true, true, false, true, false] rfl rfl (by kernel_rfl) (fun _ _ _ h => h) (Or.inl ⟨by rfl, ?_⟩) hHeld ?_ ?_
    rotate_left
    · rintro w' ⟨s0, s1⟩
      refine (run_ld 44 (.tmp 1) (by rfl) w.heap.size (by rfl) (s0.blk 0 rfl) Try.underlying44 (m := 4) (by kernel_rfl) (num_length _)).trans ?_; with_reducible rfl
    rotate_left
    · simp only [Act.put, OpenRow.s1, OpenRow.s2, OpenRow.s3, i64_w, i32_w]; rfl
    refine one_ (i := 2) (N := some 10) #[true, true, true, true, false] rfl rfl (by kernel_rfl) (by decide) (fun K hK => ?_)
    refine goes_ Try.func65 (by kernel_rfl) rfl #[.agg (arr .u64 (num x)), .agg (arr .u64 (num x))] (by rfl) rfl rfl (by simp only [List.map_toArray, List.map_cons, List.map_nil] <;> rfl) ?_
    with_reducible refine (HMx.out _).mono ?_
    rintro e w3 ⟨rfl, hb⟩
    refine ⟨_, rfl, ?_⟩
    have V1 := Aside0.mk (V0.out.step hb)
    have A1 := Aside0.mk (blk_below A0.out hb)
    clear hb
    refine hK.out _ _ ⟨V1.out, A1.out⟩ (fun hHeld => ?_)
    clear hK K
    refine norm_ (a' := ?_) ?_ ?_
    rotate_left
    · show Act.put _ (some 10) _ = _
      simp only [Act.put, OpenRow.s1, OpenRow.s2, OpenRow.s3, i64_w, i32_w]
      rfl
    refine pure_ (i := 4) (N := some 12) (v := ?_) (a' := ?_) #[true, true, true, true, true] rfl rfl (by kernel_rfl) (fun _ _ _ h => h) (Or.inl ⟨by rfl, ?_⟩) ?_ ?_
    rotate_left
    · intro w'; go_simp; with_reducible rfl
    rotate_left
    · simp only [Act.put, OpenRow.s1, OpenRow.s2, OpenRow.s3, i64_w, i32_w]; rfl
    refine done_ (by kernel_rfl) ?_

    go_wp2
    have V2 := Aside0.mk V1.out.drew
    have A2 := Aside0.mk (blk_drew A1.out)

    refine start_ (n := 5) (S := fun w' => St w [⟨44, .u64, num a⟩, ⟨44, .u64, z4⟩] w' ∧ w'.heap[g]? = some (.cells (arr .u64 (num x)) 44 (0, 0))) (ds := []) #[false, false, false, false, false] (by kernel_rfl) rfl rfl ⟨V2.out, A2.out⟩ (fun hHeld => ?_)
    refine take_ (i := 0) (N := some 16) (v := ?_) (a' := ?_) #[true, false, false, false, false] rfl rfl (by kernel_rfl) (fun _ _ _ h => h) (Or.inl ⟨by rfl, ?_⟩) hHeld ?_ ?_
    rotate_left
    · rintro w' ⟨s0, s1⟩
      refine (run_ld 44 (.tmp 4) (by rfl) g (by rfl) s1 Try.underlying44 (m := 4) (by kernel_rfl) (num_length _)).trans ?_; with_reducible rfl
    rotate_left
    · simp only [Act.put, OpenRow.s1, OpenRow.s2, OpenRow.s3, i64_w, i32_w]; rfl
    refine take_ (i := 1) (N := some 17) (v := ?_) (a' := ?_) #[true, true, false, false, false] rfl rfl (by kernel_rfl) (fun _ _ _ h => h) (Or.inl ⟨by rfl, ?_⟩) hHeld ?_ ?_
    rotate_left
    · rintro w' ⟨s0, s1⟩
      refine (run_ld 44 (.tmp 4) (by rfl) g (by rfl) s1 Try.underlying44 (m := 4) (by kernel_rfl) (num_length _)).trans ?_; with_reducible rfl
    rotate_left
    · simp only [Act.put, OpenRow.s1, OpenRow.s2, OpenRow.s3, i64_w, i32_w]; rfl
    refine take_ (i := 3) (N := some 19) (v := ?_) (a' := ?_) #[true, true, false, true, false] rfl rfl (by kernel_rfl) (fun _ _ _ h => h) (Or.inl ⟨by rfl, ?_⟩) hHeld ?_ ?_
    rotate_left
    · rintro w' ⟨s0, s1⟩
      refine (run_ld 44 (.tmp 1) (by rfl) w.heap.size (by rfl) (s0.blk 0 rfl) Try.underlying44 (m := 4) (by kernel_rfl) (num_length _)).trans ?_; with_reducible rfl
    rotate_left
    · simp only [Act.put, OpenRow.s1, OpenRow.s2, OpenRow.s3, i64_w, i32_w]; rfl
    refine one_ (i := 2) (N := some 18) #[true, true, true, true, false] rfl rfl (by kernel_rfl) (by decide) (fun K hK => ?_)
    refine goes_ Try.func65 (by kernel_rfl) rfl #[.agg (arr .u64 (num x)), .agg (arr .u64 (num x))] (by rfl) rfl rfl (by simp only [List.map_toArray, List.map_cons, List.map_nil] <;> rfl) ?_
    with_reducible refine (HMx.out _).mono ?_
    rintro e w3 ⟨rfl, hb⟩
    refine ⟨_, rfl, ?_⟩
    have V3 := Aside0.mk (V2.out.step hb)
    have A3 := Aside0.mk (blk_below A2.out hb)
    clear hb
    refine hK.out _ _ ⟨V3.out, A3.out⟩ (fun hHeld => ?_)
    clear hK K
    refine norm_ (a' := ?_) ?_ ?_
    rotate_left
    · show Act.put _ (some 18) _ = _
      simp only [Act.put, OpenRow.s1, OpenRow.s2, OpenRow.s3, i64_w, i32_w]
      rfl
    refine pure_ (i := 4) (N := some 20) (v := ?_) (a' := ?_) #[true, true, true, true, true] rfl rfl (by kernel_rfl) (fun _ _ _ h => h) (Or.inl ⟨by rfl, ?_⟩) ?_ ?_
    rotate_left
    · intro w'; go_simp; with_reducible rfl
    rotate_left
    · simp only [Act.put, OpenRow.s1, OpenRow.s2, OpenRow.s3, i64_w, i32_w]; rfl
    refine done_ (by kernel_rfl) ?_

    rcases Nat.mod_two_eq_zero_or_one x with ho | ho
    · have EV := Aside0.mk (show rtV a = x by unfold rtV; rw [← ER.out, if_neg (by omega)])
      have HO := Aside0.mk (fun W => impl_element_isOdd.calls x W)
      rw [decide_eq_false (by omega)] at HO
      clear ho
      go_wp2_with (first
        | ((with_reducible refine gate_dst (N := 22) rfl ?_); refine ld_arr rfl 44 (.tmp 4) rfl g rfl A3.out Try.underlying44 (m := 4) (by kernel_rfl) (num_length _) ?_)
        | ((with_reducible refine (HO.out _).mono ?_); rintro e w8 ⟨rfl, hb⟩; have V8 := Aside0.mk (V3.out.step hb); have A8 := Aside0.mk (blk_below A3.out hb); clear hb)
        | ((with_reducible refine gate_dst (N := 26) rfl ?_); refine ld_arr rfl 44 (.tmp 4) rfl g rfl A8.out Try.underlying44 (m := 4) (by kernel_rfl) (num_length _) ?_)
        | (refine st_arr rfl 44 (.tmp 2) (.tmp 26) rfl (w.heap.size + 1) (xs := num x) rfl rfl (V8.out.blk 1 rfl) (m := 4) (by kernel_rfl) (num_length _) (by rw [num_length]; rfl) ?_; intro w' h1 h2 h4 h3; have H1 := Aside0.mk h1; have V9 := Aside0.mk (V8.out.row 1 rfl h1 h2 h3); clear h1 h2 h3 h4))
      exact bodyPost_ret (results_ct Try.results73 _ _ (w.heap.size + 1) 44 _ (0, 0) _ rfl H1.out Try.underlying44 rfl (by rw [arr_size, num_length]; kernel_rfl)) rfl ⟨by rw [EV.out]; rfl, V9.out.below⟩
    · have EV := Aside0.mk (show rtV a = (PP - x) % PP by unfold rtV; rw [← ER.out, if_pos ho])
      have HO := Aside0.mk (fun W => impl_element_isOdd.calls x W)
      rw [decide_eq_true ho] at HO
      have HN := Aside0.mk (fun W => impl_element_negative.calls x W HXx.out)
      clear ho
      generalize (PP - x) % PP = y at *
      go_wp2_with (first
        | ((with_reducible refine gate_dst (N := 22) rfl ?_); refine ld_arr rfl 44 (.tmp 4) rfl g rfl A3.out Try.underlying44 (m := 4) (by kernel_rfl) (num_length _) ?_)
        | ((with_reducible refine (HO.out _).mono ?_); rintro e w8 ⟨rfl, hb⟩; have V8 := Aside0.mk (V3.out.step hb); have A8 := Aside0.mk (blk_below A3.out hb); clear hb)
        | ((with_reducible refine gate_dst (N := 24) rfl ?_); refine ld_arr rfl 44 (.tmp 4) rfl g rfl A8.out Try.underlying44 (m := 4) (by kernel_rfl) (num_length _) ?_)
        | ((with_reducible refine (HN.out _).mono ?_); rintro e w9 ⟨rfl, hb⟩; have V9 := Aside0.mk (V8.out.step hb); have A9 := Aside0.mk (blk_below A8.out hb); clear hb)
        | (refine st_arr rfl 44 (.tmp 4) (.tmp 25) rfl g (xs := num y) rfl rfl A9.out (m := 4) (by kernel_rfl) (num_length _) (by rw [num_length, num_length]) ?_; intro w10 h1 h2 h4 h3; have A10 := Aside0.mk h1; have V10 := Aside0.mk (St.other V9.out h2 h3 HG.out); clear h1 h2 h3 h4)
        | ((with_reducible refine gate_dst (N := 26) rfl ?_); refine ld_arr rfl 44 (.tmp 4) rfl g rfl A10.out Try.underlying44 (m := 4) (by kernel_rfl) (num_length _) ?_)
        | (refine st_arr rfl 44 (.tmp 2) (.tmp 26) rfl (w.heap.size + 1) (xs := num y) rfl rfl (V10.out.blk 1 rfl) (m := 4) (by kernel_rfl) (num_length _) (by rw [num_length]; rfl) ?_; intro w' h1 h2 h4 h3; have H1 := Aside0.mk h1; have V11 := Aside0.mk (V10.out.row 1 rfl h1 h2 h3); clear h1 h2 h3 h4))
      exact bodyPost_ret (results_ct Try.results73 _ _ (w.heap.size + 1) 44 _ (0, 0) _ rfl H1.out Try.underlying44 rfl (by rw [arr_size, num_length]; kernel_rfl)) rfl ⟨by rw [EV.out]; rfl, V11.out.below⟩
  · rw [if_neg h0] at E1
    have e1 := E1.out
    subst e1
    rw [decide_eq_false h0] at hEx
    by_cases h1 : p = a
    · have hok : rtOk a = true := by rw [EO.out, decide_eq_true h1]
      rw [hok, if_pos rfl]
      rw [decide_eq_true h1] at hEz
      clear hok hq hp hi h0 h1 E1 EO
      go_enter Try.func73, Try.ntmps73
      go_wp2_with (first
        | ((with_reducible refine gate_dst (N := 5) rfl ?_); refine ld_arr rfl 44 (.tmp 1) rfl w.heap.size rfl (S.out.blk 0 rfl) Try.underlying44 (m := 4) (by kernel_rfl) (num_length _) ?_)
        | ((refine (HW.out _).mono ?_); rintro e w1 ⟨rfl, hb⟩; have S1 := Aside0.mk (S.out.step hb); clear hb)
        | (refine st_arr rfl 44 (.tmp 4) (.tmp 7) rfl w1.heap.size (xs := num x) rfl rfl (blk_new w1 (.cells (arr .u64 z4) 44)) (m := 4) (by kernel_rfl) (num_length _) (by rw [num_length]; rfl) ?_; intro w2 h1 h2 h4 h3; have A0 := Aside0.mk (blk_drew h1); have V0 := Aside0.mk (St.other (S1.out.alloc (.cells (arr .u64 z4) 44)) h2 h3 S1.out.size).drew; clear h1 h2 h3 h4))
      have HG := Aside0.mk S1.out.size
      generalize w1.heap.size = g at *
      clear S1 S
      go_wp2
      refine start_ (n := 5) (S := fun w' => St w [⟨44, .u64, num a⟩, ⟨44, .u64, z4⟩] w' ∧ w'.heap[g]? = some (.cells (arr .u64 (num x)) 44 (0, 0))) (ds := []) #[false, false, false, false, false] (by kernel_rfl) rfl rfl ⟨V0.out, A0.out⟩ (fun hHeld => ?_)
      refine take_ (i := 0) (N := some 8) (v := ?_) (a' := ?_) #[true, false, false, false, false] rfl rfl (by kernel_rfl) (fun _ _ _ h => h) (Or.inl ⟨by rfl, ?_⟩) hHeld ?_ ?_
      rotate_left
      · rintro w' ⟨s0, s1⟩
        refine (run_ld 44 (.tmp 4) (by rfl) g (by rfl) s1 Try.underlying44 (m := 4) (by kernel_rfl) (num_length _)).trans ?_; with_reducible rfl
      rotate_left
      · simp only [Act.put, OpenRow.s1, OpenRow.s2, OpenRow.s3, i64_w, i32_w]; rfl
      refine take_ (i := 1) (N := some 9) (v := ?_) (a' := ?_) #[true, true, false, false, false] rfl rfl (by kernel_rfl) (fun _ _ _ h => h) (Or.inl ⟨by rfl, ?_⟩) hHeld ?_ ?_
      rotate_left
      · rintro w' ⟨s0, s1⟩
        refine (run_ld 44 (.tmp 4) (by rfl) g (by rfl) s1 Try.underlying44 (m := 4) (by kernel_rfl) (num_length _)).trans ?_; with_reducible rfl
      rotate_left
      · simp only [Act.put, OpenRow.s1, OpenRow.s2, OpenRow.s3, i64_w, i32_w]; rfl
      refine take_ (i := 3) (N := some 11) (v := ?_) (a' := ?_) #[true, true, false, true, false] rfl rfl (by kernel_rfl) (fun _ _ _ h => h) (Or.inl ⟨by rfl, ?_⟩) hHeld ?_ ?_
      rotate_left
      · rintro w' ⟨s0, s1⟩
        refine (run_ld 44 (.tmp 1) (by rfl) w.heap.size (by rfl) (s0.blk 0 rfl) Try.underlying44 (m := 4) (by kernel_rfl) (num_length _)).trans ?_; with_reducible rfl
      rotate_left
      · simp only [Act.put, OpenRow.s1, OpenRow.s2, OpenRow.s3, i64_w, i32_w]; rfl
      refine one_ (i := 2) (N := some 10) #[true, true, true, true, false] rfl rfl (by kernel_rfl) (by decide) (fun K hK => ?_)
      refine goes_ Try.func65 (by kernel_rfl) rfl #[.agg (arr .u64 (num x)), .agg (arr .u64 (num x))] (by rfl) rfl rfl (by simp only [List.map_toArray, List.map_cons, List.map_nil] <;> rfl) ?_
      with_reducible refine (HMx.out _).mono ?_
      rintro e w3 ⟨rfl, hb⟩
      refine ⟨_, rfl, ?_⟩
      have V1 := Aside0.mk (V0.out.step hb)
      have A1 := Aside0.mk (blk_below A0.out hb)
      clear hb
      refine hK.out _ _ ⟨V1.out, A1.out⟩ (fun hHeld => ?_)
      clear hK K
      refine norm_ (a' := ?_) ?_ ?_
      rotate_left
      · show Act.put _ (some 10) _ = _
        simp only [Act.put, OpenRow.s1, OpenRow.s2, OpenRow.s3, i64_w, i32_w]
        rfl
      refine pure_ (i := 4) (N := some 12) (v := ?_) (a' := ?_) #[true, true, true, true, true] rfl rfl (by kernel_rfl) (fun _ _ _ h => h) (Or.inl ⟨by rfl, ?_⟩) ?_ ?_
      rotate_left
      · intro w'; go_simp; with_reducible rfl
      rotate_left
      · simp only [Act.put, OpenRow.s1, OpenRow.s2, OpenRow.s3, i64_w, i32_w]; rfl
      refine done_ (by kernel_rfl) ?_

      go_wp2
      have V2 := Aside0.mk V1.out.drew
      have A2 := Aside0.mk (blk_drew A1.out)

      refine start_ (n := 4) (S := fun w' => St w [⟨44, .u64, num a⟩, ⟨44, .u64, z4⟩] w' ∧ w'.heap[g]? = some (.cells (arr .u64 (num x)) 44 (0, 0))) (ds := [3]) #[false, false, false, false] (by kernel_rfl) rfl rfl ⟨V2.out, A2.out⟩ (fun hHeld => ?_)
      refine take_ (i := 0) (N := some 13) (v := ?_) (a' := ?_) #[true, false, false, false] rfl rfl (by kernel_rfl) (fun _ _ _ h => h) (Or.inl ⟨by rfl, ?_⟩) hHeld ?_ ?_
      rotate_left
      · rintro w' ⟨s0, s1⟩
        refine (run_ld 44 (.tmp 4) (by rfl) g (by rfl) s1 Try.underlying44 (m := 4) (by kernel_rfl) (num_length _)).trans ?_; with_reducible rfl
      rotate_left
      · simp only [Act.put, OpenRow.s1, OpenRow.s2, OpenRow.s3, i64_w, i32_w]; rfl
      refine one_ (i := 1) (N := some 14) #[true, true, false, false] rfl rfl (by kernel_rfl) (by decide) (fun K hK => ?_)
      refine goes_ Try.func98 (by kernel_rfl) rfl #[] (by rfl) rfl rfl (by simp only [List.map_toArray, List.map_cons, List.map_nil] <;> rfl) ?_
      with_reducible refine (impl_imaginary.calls _).mono ?_
      rintro e w3 ⟨rfl, hb⟩
      refine ⟨_, rfl, ?_⟩
      have V5 := Aside0.mk (V2.out.step hb)
      have A5 := Aside0.mk (blk_below A2.out hb)
      clear hb
      refine hK.out _ _ ⟨V5.out, A5.out⟩ (fun hHeld => ?_)
      clear hK K
      refine norm_ (a' := ?_) ?_ ?_
      rotate_left
      · show Act.put _ (some 14) _ = _
        simp only [Act.put, OpenRow.s1, OpenRow.s2, OpenRow.s3, i64_w, i32_w]
        rfl
      refine one_ (i := 2) (N := some 15) #[true, true, true, false] rfl rfl (by kernel_rfl) (by decide) (fun K hK => ?_)
      refine goes_ Try.func65 (by kernel_rfl) rfl #[.agg (arr .u64 (num x)), .agg (arr .u64 (num imaginaryN))] (by rfl) rfl rfl (by simp only [List.map_toArray, List.map_cons, List.map_nil] <;> rfl) ?_
      with_reducible refine (HMi.out _).mono ?_
      rintro e w3 ⟨rfl, hb⟩
      refine ⟨_, rfl, ?_⟩
      have V6 := Aside0.mk (V5.out.step hb)
      have A6 := Aside0.mk (blk_below A5.out hb)
      clear hb
      refine hK.out _ _ ⟨V6.out, A6.out⟩ (fun hHeld => ?_)
      clear hK K
      refine norm_ (a' := ?_) ?_ ?_
      rotate_left
      · show Act.put _ (some 15) _ = _
        simp only [Act.put, OpenRow.s1, OpenRow.s2, OpenRow.s3, i64_w, i32_w]
        rfl
      refine last_ (i := 3) (N := none) #[true, true, true, true] rfl rfl (by kernel_rfl) (by decide) (fun K hK => ?_)
      refine st_step (by rfl) rfl 44 (.tmp 4) (.tmp 15) rfl g rfl rfl A6.out (m := 4) (by kernel_rfl) (num_length _) (by rw [num_length, num_length]) ?_
      intro w6 h1 h2 h3 h4
      have A7 := Aside0.mk h1
      have V7 := Aside0.mk (St.other V6.out h2 h3 HG.out)
      clear h1 h2 h3 h4
      refine hK.out _ _ ?_
      clear hK K
      refine done_ (by kernel_rfl) ?_

      go_wp2
      have V8 := Aside0.mk V7.out.drew
      have A8 := Aside0.mk (blk_drew A7.out)

      refine start_ (n := 5) (S := fun w' => St w [⟨44, .u64, num a⟩, ⟨44, .u64, z4⟩] w' ∧ w'.heap[g]? = some (.cells (arr .u64 (num z)) 44 (0, 0))) (ds := []) #[false, false, false, false, false] (by kernel_rfl) rfl rfl ⟨V8.out, A8.out⟩ (fun hHeld => ?_)
      refine take_ (i := 0) (N := some 16) (v := ?_) (a' := ?_) #[true, false, false, false, false] rfl rfl (by kernel_rfl) (fun _ _ _ h => h) (Or.inl ⟨by rfl, ?_⟩) hHeld ?_ ?_
      rotate_left
      · rintro w' ⟨s0, s1⟩
        refine (run_ld 44 (.tmp 4) (by rfl) g (by rfl) s1 Try.underlying44 (m := 4) (by kernel_rfl) (num_length _)).trans ?_; with_reducible rfl
      rotate_left
      · simp only [Act.put, OpenRow.s1, OpenRow.s2, OpenRow.s3, i64_w, i32_w]; rfl
      refine take_ (i := 1) (N := some 17) (v := ?_) (a' := ?_) #[true, true, false, false, false] rfl rfl (by kernel_rfl) (fun _ _ _ h => h) (Or.inl ⟨by rfl, ?_⟩) hHeld ?_ ?_
      rotate_left
      · rintro w' ⟨s0, s1⟩
        refine (run_ld 44 (.tmp 4) (by rfl) g (by rfl) s1 Try.underlying44 (m := 4) (by kernel_rfl) (num_length _)).trans ?_; with_reducible rfl
      rotate_left
      · simp only [Act.put, OpenRow.s1, OpenRow.s2, OpenRow.s3, i64_w, i32_w]; rfl
      refine take_ (i := 3) (N := some 19) (v := ?_) (a' := ?_) #[true, true, false, true, false] rfl rfl (by kernel_rfl) (fun _ _ _ h => h) (Or.inl ⟨by rfl, ?_⟩) hHeld ?_ ?_
      rotate_left
      · rintro w' ⟨s0, s1⟩
        refine (run_ld 44 (.tmp 1) (by rfl) w.heap.size (by rfl) (s0.blk 0 rfl) Try.underlying44 (m := 4) (by kernel_rfl) (num_length _)).trans ?_; with_reducible rfl
      rotate_left
      · simp only [Act.put, OpenRow.s1, OpenRow.s2, OpenRow.s3, i64_w, i32_w]; rfl
      refine one_ (i := 2) (N := some 18) #[true, true, true, true, false] rfl rfl (by kernel_rfl) (by decide) (fun K hK => ?_)
      refine goes_ Try.func65 (by kernel_rfl) rfl #[.agg (arr .u64 (num z)), .agg (arr .u64 (num z))] (by rfl) rfl rfl (by simp only [List.map_toArray, List.map_cons, List.map_nil] <;> rfl) ?_
      with_reducible refine (HMz.out _).mono ?_
      rintro e w3 ⟨rfl, hb⟩
      refine ⟨_, rfl, ?_⟩
      have V9 := Aside0.mk (V8.out.step hb)
      have A9 := Aside0.mk (blk_below A8.out hb)
      clear hb
      refine hK.out _ _ ⟨V9.out, A9.out⟩ (fun hHeld => ?_)
      clear hK K
      refine norm_ (a' := ?_) ?_ ?_
      rotate_left
      · show Act.put _ (some 18) _ = _
        simp only [Act.put, OpenRow.s1, OpenRow.s2, OpenRow.s3, i64_w, i32_w]
        rfl
      refine pure_ (i := 4) (N := some 20) (v := ?_) (a' := ?_) #[true, true, true, true, true] rfl rfl (by kernel_rfl) (fun _ _ _ h => h) (Or.inl ⟨by rfl, ?_⟩) ?_ ?_
      rotate_left
      · intro w'; go_simp; with_reducible rfl
      rotate_left
      · simp only [Act.put, OpenRow.s1, OpenRow.s2, OpenRow.s3, i64_w, i32_w]; rfl
      refine done_ (by kernel_rfl) ?_

      rcases Nat.mod_two_eq_zero_or_one z with ho | ho
      · have EV := Aside0.mk (show rtV a = z by unfold rtV; rw [← ER.out, if_neg (by omega)])
        have HO := Aside0.mk (fun W => impl_element_isOdd.calls z W)
        rw [decide_eq_false (by omega)] at HO
        clear ho
        go_wp2_with (first
          | ((with_reducible refine gate_dst (N := 22) rfl ?_); refine ld_arr rfl 44 (.tmp 4) rfl g rfl A9.out Try.underlying44 (m := 4) (by kernel_rfl) (num_length _) ?_)
          | ((with_reducible refine (HO.out _).mono ?_); rintro e w8 ⟨rfl, hb⟩; have V8 := Aside0.mk (V9.out.step hb); have A8 := Aside0.mk (blk_below A9.out hb); clear hb)
          | ((with_reducible refine gate_dst (N := 26) rfl ?_); refine ld_arr rfl 44 (.tmp 4) rfl g rfl A8.out Try.underlying44 (m := 4) (by kernel_rfl) (num_length _) ?_)
          | (refine st_arr rfl 44 (.tmp 2) (.tmp 26) rfl (w.heap.size + 1) (xs := num z) rfl rfl (V8.out.blk 1 rfl) (m := 4) (by kernel_rfl) (num_length _) (by rw [num_length]; rfl) ?_; intro w' h1 h2 h4 h3; have H1 := Aside0.mk h1; have V9 := Aside0.mk (V8.out.row 1 rfl h1 h2 h3); clear h1 h2 h3 h4))
        exact bodyPost_ret (results_ct Try.results73 _ _ (w.heap.size + 1) 44 _ (0, 0) _ rfl H1.out Try.underlying44 rfl (by rw [arr_size, num_length]; kernel_rfl)) rfl ⟨by rw [EV.out]; rfl, V9.out.below⟩
      · have EV := Aside0.mk (show rtV a = (PP - z) % PP by unfold rtV; rw [← ER.out, if_pos ho])
        have HO := Aside0.mk (fun W => impl_element_isOdd.calls z W)
        rw [decide_eq_true ho] at HO
        have HN := Aside0.mk (fun W => impl_element_negative.calls z W HXz.out)
        clear ho
        generalize (PP - z) % PP = y at *
        go_wp2_with (first
          | ((with_reducible refine gate_dst (N := 22) rfl ?_); refine ld_arr rfl 44 (.tmp 4) rfl g rfl A9.out Try.underlying44 (m := 4) (by kernel_rfl) (num_length _) ?_)
          | ((with_reducible refine (HO.out _).mono ?_); rintro e w8 ⟨rfl, hb⟩; have V8 := Aside0.mk (V9.out.step hb); have A8 := Aside0.mk (blk_below A9.out hb); clear hb)
          | ((with_reducible refine gate_dst (N := 24) rfl ?_); refine ld_arr rfl 44 (.tmp 4) rfl g rfl A8.out Try.underlying44 (m := 4) (by kernel_rfl) (num_length _) ?_)
          | ((with_reducible refine (HN.out _).mono ?_); rintro e w9 ⟨rfl, hb⟩; have V9 := Aside0.mk (V8.out.step hb); have A9 := Aside0.mk (blk_below A8.out hb); clear hb)
          | (refine st_arr rfl 44 (.tmp 4) (.tmp 25) rfl g (xs := num y) rfl rfl A9.out (m := 4) (by kernel_rfl) (num_length _) (by rw [num_length, num_length]) ?_; intro w10 h1 h2 h4 h3; have A10 := Aside0.mk h1; have V10 := Aside0.mk (St.other V9.out h2 h3 HG.out); clear h1 h2 h3 h4)
          | ((with_reducible refine gate_dst (N := 26) rfl ?_); refine ld_arr rfl 44 (.tmp 4) rfl g rfl A10.out Try.underlying44 (m := 4) (by kernel_rfl) (num_length _) ?_)
          | (refine st_arr rfl 44 (.tmp 2) (.tmp 26) rfl (w.heap.size + 1) (xs := num y) rfl rfl (V10.out.blk 1 rfl) (m := 4) (by kernel_rfl) (num_length _) (by rw [num_length]; rfl) ?_; intro w' h1 h2 h4 h3; have H1 := Aside0.mk h1; have V11 := Aside0.mk (V10.out.row 1 rfl h1 h2 h3); clear h1 h2 h3 h4))
        exact bodyPost_ret (results_ct Try.results73 _ _ (w.heap.size + 1) 44 _ (0, 0) _ rfl H1.out Try.underlying44 rfl (by rw [arr_size, num_length]; kernel_rfl)) rfl ⟨by rw [EV.out]; rfl, V11.out.below⟩
    · have hok : rtOk a = false := by rw [EO.out, decide_eq_false h1]
      rw [hok, if_neg (by decide), show num 0 = [0, 0, 0, 0] from by decide]
      rw [decide_eq_false h1] at hEz
      clear hok hq hp hi h0 h1 E1 EO
      go_enter Try.func73, Try.ntmps73
      go_wp2_with (first
        | ((with_reducible refine gate_dst (N := 5) rfl ?_); refine ld_arr rfl 44 (.tmp 1) rfl w.heap.size rfl (S.out.blk 0 rfl) Try.underlying44 (m := 4) (by kernel_rfl) (num_length _) ?_)
        | ((refine (HW.out _).mono ?_); rintro e w1 ⟨rfl, hb⟩; have S1 := Aside0.mk (S.out.step hb); clear hb)
        | (refine st_arr rfl 44 (.tmp 4) (.tmp 7) rfl w1.heap.size (xs := num x) rfl rfl (blk_new w1 (.cells (arr .u64 z4) 44)) (m := 4) (by kernel_rfl) (num_length _) (by rw [num_length]; rfl) ?_; intro w2 h1 h2 h4 h3; have A0 := Aside0.mk (blk_drew h1); have V0 := Aside0.mk (St.other (S1.out.alloc (.cells (arr .u64 z4) 44)) h2 h3 S1.out.size).drew; clear h1 h2 h3 h4))
      have HG := Aside0.mk S1.out.size
      generalize w1.heap.size = g at *
      clear S1 S
      go_wp2
      refine start_ (n := 5) (S := fun w' => St w [⟨44, .u64, num a⟩, ⟨44, .u64, z4⟩] w' ∧ w'.heap[g]? = some (.cells (arr .u64 (num x)) 44 (0, 0))) (ds := []) #[false, false, false, false, false] (by kernel_rfl) rfl rfl ⟨V0.out, A0.out⟩ (fun hHeld => ?_)
      refine take_ (i := 0) (N := some 8) (v := ?_) (a' := ?_) #[true, false, false, false, false] rfl rfl (by kernel_rfl) (fun _ _ _ h => h) (Or.inl ⟨by rfl, ?_⟩) hHeld ?_ ?_
      rotate_left
      · rintro w' ⟨s0, s1⟩
        refine (run_ld 44 (.tmp 4) (by rfl) g (by rfl) s1 Try.underlying44 (m := 4) (by kernel_rfl) (num_length _)).trans ?_; with_reducible rfl
      rotate_left
      · simp only [Act.put, OpenRow.s1, OpenRow.s2, OpenRow.s3, i64_w, i32_w]; rfl
      refine take_ (i := 1) (N := some 9) (v := ?_) (a' := ?_) #[true, true, false, false, false] rfl rfl (by kernel_rfl) (fun _ _ _ h => h) (Or.inl ⟨by rfl, ?_⟩) hHeld ?_ ?_
      rotate_left
      · rintro w' ⟨s0, s1⟩
        refine (run_ld 44 (.tmp 4) (by rfl) g (by rfl) s1 Try.underlying44 (m := 4) (by kernel_rfl) (num_length _)).trans ?_; with_reducible rfl
      rotate_left
      · simp only [Act.put, OpenRow.s1, OpenRow.s2, OpenRow.s3, i64_w, i32_w]; rfl
      refine take_ (i := 3) (N := some 11) (v := ?_) (a' := ?_) #[true, true, false, true, false] rfl rfl (by kernel_rfl) (fun _ _ _ h => h) (Or.inl ⟨by rfl, ?_⟩) hHeld ?_ ?_
      rotate_left
      · rintro w' ⟨s0, s1⟩
        refine (run_ld 44 (.tmp 1) (by rfl) w.heap.size (by rfl) (s0.blk 0 rfl) Try.underlying44 (m := 4) (by kernel_rfl) (num_length _)).trans ?_; with_reducible rfl
      rotate_left
      · simp only [Act.put, OpenRow.s1, OpenRow.s2, OpenRow.s3, i64_w, i32_w]; rfl
      refine one_ (i := 2) (N := some 10) #[true, true, true, true, false] rfl rfl (by kernel_rfl) (by decide) (fun K hK => ?_)
      refine goes_ Try.func65 (by kernel_rfl) rfl #[.agg (arr .u64 (num x)), .agg (arr .u64 (num x))] (by rfl) rfl rfl (by simp only [List.map_toArray, List.map_cons, List.map_nil] <;> rfl) ?_
      with_reducible refine (HMx.out _).mono ?_
      rintro e w3 ⟨rfl, hb⟩
      refine ⟨_, rfl, ?_⟩
      have V1 := Aside0.mk (V0.out.step hb)
      have A1 := Aside0.mk (blk_below A0.out hb)
      clear hb
      refine hK.out _ _ ⟨V1.out, A1.out⟩ (fun hHeld => ?_)
      clear hK K
      refine norm_ (a' := ?_) ?_ ?_
      rotate_left
      · show Act.put _ (some 10) _ = _
        simp only [Act.put, OpenRow.s1, OpenRow.s2, OpenRow.s3, i64_w, i32_w]
        rfl
      refine pure_ (i := 4) (N := some 12) (v := ?_) (a' := ?_) #[true, true, true, true, true] rfl rfl (by kernel_rfl) (fun _ _ _ h => h) (Or.inl ⟨by rfl, ?_⟩) ?_ ?_
      rotate_left
      · intro w'; go_simp; with_reducible rfl
      rotate_left
      · simp only [Act.put, OpenRow.s1, OpenRow.s2, OpenRow.s3, i64_w, i32_w]; rfl
      refine done_ (by kernel_rfl) ?_

      go_wp2
      have V2 := Aside0.mk V1.out.drew
      have A2 := Aside0.mk (blk_drew A1.out)

      refine start_ (n := 4) (S := fun w' => St w [⟨44, .u64, num a⟩, ⟨44, .u64, z4⟩] w' ∧ w'.heap[g]? = some (.cells (arr .u64 (num x)) 44 (0, 0))) (ds := [3]) #[false, false, false, false] (by kernel_rfl) rfl rfl ⟨V2.out, A2.out⟩ (fun hHeld => ?_)
      refine take_ (i := 0) (N := some 13) (v := ?_) (a' := ?_) #[true, false, false, false] rfl rfl (by kernel_rfl) (fun _ _ _ h => h) (Or.inl ⟨by rfl, ?_⟩) hHeld ?_ ?_
      rotate_left
      · rintro w' ⟨s0, s1⟩
        refine (run_ld 44 (.tmp 4) (by rfl) g (by rfl) s1 Try.underlying44 (m := 4) (by kernel_rfl) (num_length _)).trans ?_; with_reducible rfl
      rotate_left
      · simp only [Act.put, OpenRow.s1, OpenRow.s2, OpenRow.s3, i64_w, i32_w]; rfl
      refine one_ (i := 1) (N := some 14) #[true, true, false, false] rfl rfl (by kernel_rfl) (by decide) (fun K hK => ?_)
      refine goes_ Try.func98 (by kernel_rfl) rfl #[] (by rfl) rfl rfl (by simp only [List.map_toArray, List.map_cons, List.map_nil] <;> rfl) ?_
      with_reducible refine (impl_imaginary.calls _).mono ?_
      rintro e w3 ⟨rfl, hb⟩
      refine ⟨_, rfl, ?_⟩
      have V5 := Aside0.mk (V2.out.step hb)
      have A5 := Aside0.mk (blk_below A2.out hb)
      clear hb
      refine hK.out _ _ ⟨V5.out, A5.out⟩ (fun hHeld => ?_)
      clear hK K
      refine norm_ (a' := ?_) ?_ ?_
      rotate_left
      · show Act.put _ (some 14) _ = _
        simp only [Act.put, OpenRow.s1, OpenRow.s2, OpenRow.s3, i64_w, i32_w]
        rfl
      refine one_ (i := 2) (N := some 15) #[true, true, true, false] rfl rfl (by kernel_rfl) (by decide) (fun K hK => ?_)
      refine goes_ Try.func65 (by kernel_rfl) rfl #[.agg (arr .u64 (num x)), .agg (arr .u64 (num imaginaryN))] (by rfl) rfl rfl (by simp only [List.map_toArray, List.map_cons, List.map_nil] <;> rfl) ?_
      with_reducible refine (HMi.out _).mono ?_
      rintro e w3 ⟨rfl, hb⟩
      refine ⟨_, rfl, ?_⟩
      have V6 := Aside0.mk (V5.out.step hb)
      have A6 := Aside0.mk (blk_below A5.out hb)
      clear hb
      refine hK.out _ _ ⟨V6.out, A6.out⟩ (fun hHeld => ?_)
      clear hK K
      refine norm_ (a' := ?_) ?_ ?_
      rotate_left
      · show Act.put _ (some 15) _ = _
        simp only [Act.put, OpenRow.s1, OpenRow.s2, OpenRow.s3, i64_w, i32_w]
        rfl
      refine last_ (i := 3) (N := none) #[true, true, true, true] rfl rfl (by kernel_rfl) (by decide) (fun K hK => ?_)
      refine st_step (by rfl) rfl 44 (.tmp 4) (.tmp 15) rfl g rfl rfl A6.out (m := 4) (by kernel_rfl) (num_length _) (by rw [num_length, num_length]) ?_
      intro w6 h1 h2 h3 h4
      have A7 := Aside0.mk h1
      have V7 := Aside0.mk (St.other V6.out h2 h3 HG.out)
      clear h1 h2 h3 h4
      refine hK.out _ _ ?_
      clear hK K
      refine done_ (by kernel_rfl) ?_

      go_wp2
      have V8 := Aside0.mk V7.out.drew
      have A8 := Aside0.mk (blk_drew A7.out)

      refine start_ (n := 5) (S := fun w' => St w [⟨44, .u64, num a⟩, ⟨44, .u64, z4⟩] w' ∧ w'.heap[g]? = some (.cells (arr .u64 (num z)) 44 (0, 0))) (ds := []) #[false, false, false, false, false] (by kernel_rfl) rfl rfl ⟨V8.out, A8.out⟩ (fun hHeld => ?_)
      refine take_ (i := 0) (N := some 16) (v := ?_) (a' := ?_) #[true, false, false, false, false] rfl rfl (by kernel_rfl) (fun _ _ _ h => h) (Or.inl ⟨by rfl, ?_⟩) hHeld ?_ ?_
      rotate_left
      · rintro w' ⟨s0, s1⟩
        refine (run_ld 44 (.tmp 4) (by rfl) g (by rfl) s1 Try.underlying44 (m := 4) (by kernel_rfl) (num_length _)).trans ?_; with_reducible rfl
      rotate_left
      · simp only [Act.put, OpenRow.s1, OpenRow.s2, OpenRow.s3, i64_w, i32_w]; rfl
      refine take_ (i := 1) (N := some 17) (v := ?_) (a' := ?_) #[true, true, false, false, false] rfl rfl (by kernel_rfl) (fun _ _ _ h => h) (Or.inl ⟨by rfl, ?_⟩) hHeld ?_ ?_
      rotate_left
      · rintro w' ⟨s0, s1⟩
        refine (run_ld 44 (.tmp 4) (by rfl) g (by rfl) s1 Try.underlying44 (m := 4) (by kernel_rfl) (num_length _)).trans ?_; with_reducible rfl
      rotate_left
      · simp only [Act.put, OpenRow.s1, OpenRow.s2, OpenRow.s3, i64_w, i32_w]; rfl
      refine take_ (i := 3) (N := some 19) (v := ?_) (a' := ?_) #[true, true, false, true, false] rfl rfl (by kernel_rfl) (fun _ _ _ h => h) (Or.inl ⟨by rfl, ?_⟩) hHeld ?_ ?_
      rotate_left
      · rintro w' ⟨s0, s1⟩
        refine (run_ld 44 (.tmp 1) (by rfl) w.heap.size (by rfl) (s0.blk 0 rfl) Try.underlying44 (m := 4) (by kernel_rfl) (num_length _)).trans ?_; with_reducible rfl
      rotate_left
      · simp only [Act.put, OpenRow.s1, OpenRow.s2, OpenRow.s3, i64_w, i32_w]; rfl
      refine one_ (i := 2) (N := some 18) #[true, true, true, true, false] rfl rfl (by kernel_rfl) (by decide) (fun K hK => ?_)
      refine goes_ Try.func65 (by kernel_rfl) rfl #[.agg (arr .u64 (num z)), .agg (arr .u64 (num z))] (by rfl) rfl rfl (by simp only [List.map_toArray, List.map_cons, List.map_nil] <;> rfl) ?_
      with_reducible refine (HMz.out _).mono ?_
      rintro e w3 ⟨rfl, hb⟩
      refine ⟨_, rfl, ?_⟩
      have V9 := Aside0.mk (V8.out.step hb)
      have A9 := Aside0.mk (blk_below A8.out hb)
      clear hb
      refine hK.out _ _ ⟨V9.out, A9.out⟩ (fun hHeld => ?_)
      clear hK K
      refine norm_ (a' := ?_) ?_ ?_
      rotate_left
      · show Act.put _ (some 18) _ = _
        simp only [Act.put, OpenRow.s1, OpenRow.s2, OpenRow.s3, i64_w, i32_w]
        rfl
      refine pure_ (i := 4) (N := some 20) (v := ?_) (a' := ?_) #[true, true, true, true, true] rfl rfl (by kernel_rfl) (fun _ _ _ h => h) (Or.inl ⟨by rfl, ?_⟩) ?_ ?_
      rotate_left
      · intro w'; go_simp; with_reducible rfl
      rotate_left
      · simp only [Act.put, OpenRow.s1, OpenRow.s2, OpenRow.s3, i64_w, i32_w]; rfl
      refine done_ (by kernel_rfl) ?_

      go_wp2_with (first
        | (refine st_arr rfl 44 (.tmp 2) (.tmp 21) rfl (w.heap.size + 1) (xs := [0, 0, 0, 0]) rfl rfl (V9.out.blk 1 rfl) (m := 4) (by kernel_rfl) rfl rfl ?_; intro w' h1 h2 h4 h3; have H1 := Aside0.mk h1; have V10 := Aside0.mk (V9.out.row 1 rfl h1 h2 h3); clear h1 h2 h3 h4))
      exact bodyPost_ret (results_ct Try.results73 _ _ (w.heap.size + 1) 44 _ (0, 0) _ rfl H1.out Try.underlying44 rfl (by kernel_rfl)) rfl ⟨rfl, V10.out.below⟩


/-! ### impl_FieldRoot: function 37 -/
def impl_FieldRoot.f (l0 : List Int) : Option (List Int × Int) := if okE l0 then (if rtOk (bval l0) then some (limbs 256 32 (rtV (bval l0)), 0) else some ([], 5)) else none
set_option maxHeartbeats 1000000 in
set_option maxRecDepth 100000 in
theorem impl_FieldRoot.calls (A0 : Option Addr) (c0 : Nat) (l0 : List Int) (r1 : List Int) (r2 : Int) (w : World) (hr0 : Kd.C (Kd.int .u8) w A0 l0.length l0) (hc0 : l0.length ≤ c0) (h : impl_FieldRoot.f l0 = some (r1, r2)) :
    Calls Try.prog 37 #[.slice A0 l0.length c0] w fun e w' => ∃ v0_ : Value, e = .returned (.tuple #[v0_, .int .i64 r2]) ∧ Kd.R (Kd.int .u8) 5 w' w.heap.size (fun _ => True) v0_ r1 ∧ Below w.heap.size w w' := by
  unfold impl_FieldRoot.f at h
  by_cases ho : okE l0 = true
  · rw [if_pos ho] at h
    obtain ⟨_, k0, e0, p0, _⟩ := okE_facts ho
    have HC := Aside0.mk (fun t => elementsCode_one A0 c0 l0 t w hr0 hc0 ho)
    have HX := Aside0.mk (fun W (hb : Below w.heap.size w W) => impl_elementOf.calls A0 c0 l0 W (Kd.C_below hr0 hb) (by omega) k0)
    have HR := Aside0.mk (fun W => impl_element_root.calls (bval l0) W p0)
    clear ho k0 p0 hr0 hc0 e0
    have B0 := Aside0.mk (fun t => below_alloc (Below.refl w.heap.size w) (.cells #[.slice A0 l0.length c0] t))
    generalize bval l0 = x at *
    by_cases hz : rtOk x = true
    · rw [if_pos hz] at h
      simp only [Option.some.injEq, Prod.mk.injEq] at h
      obtain ⟨rfl, rfl⟩ := h
      rw [hz, if_pos rfl] at HR
      clear hz
      have HB := Aside0.mk (fun W => impl_element_bytes.calls (rtV x) W)
      generalize rtV x = r at *
      go_enter Try.func37, Try.ntmps37
      go_wp2_with (first
        | ((with_reducible refine (HC.out _).mono ?_); rintro e w1 ⟨rfl, hb⟩; have B1 := Aside0.mk (below_step (B0.out _) hb); clear hb)
        | ((with_reducible refine (HX.out _ B1.out).mono ?_); rintro e w2 ⟨rfl, hb⟩; have B2 := Aside0.mk (below_step B1.out hb); clear hb)
        | ((with_reducible refine (HR.out _).mono ?_); rintro e w3 ⟨rfl, hb⟩; have B3 := Aside0.mk (below_step B2.out hb); clear hb)
        | (refine st_arr rfl 44 (.tmp 5) (.tmp 17) rfl w3.heap.size (xs := num r) rfl rfl (blk_new w3 (.cells (arr .u64 z4) 44)) (m := 4) (by kernel_rfl) (num_length _) (by rw [num_length]; rfl) ?_; intro w4 h1 h2 h4 h3; have G4 := Aside0.mk h1; have B4 := Aside0.mk (h3 _ _ (below_alloc B3.out _) B3.out.size); clear h1 h2 h3 h4)
        | ((with_reducible refine gate_dst (N := 21) rfl ?_); refine ld_arr rfl 44 (.tmp 5) rfl w3.heap.size rfl G4.out Try.underlying44 (m := 4) (by kernel_rfl) (num_length _) ?_)
        | ((with_reducible refine (HB.out _).mono ?_); rintro e w5 ⟨v, rfl, hR, hb⟩; have HRR := Aside0.mk (Kd.R_lower hR B4.out.size); have B5 := Aside0.mk (below_step B4.out hb); clear hb hR))
      go_ret2
      exact ⟨_, rfl, HRR.out, B5.out⟩
    · rw [if_neg hz] at h
      simp only [Option.some.injEq, Prod.mk.injEq] at h
      obtain ⟨rfl, rfl⟩ := h
      rw [if_neg hz, Bool.eq_false_iff.mpr hz] at HR
      clear hz
      obtain ⟨r, hr⟩ : ∃ r : Nat, r = 0 := ⟨_, rfl⟩
      rw [← hr] at HR
      clear hr
      go_enter Try.func37, Try.ntmps37
      go_wp2_with (first
        | ((with_reducible refine (HC.out _).mono ?_); rintro e w1 ⟨rfl, hb⟩; have B1 := Aside0.mk (below_step (B0.out _) hb); clear hb)
        | ((with_reducible refine (HX.out _ B1.out).mono ?_); rintro e w2 ⟨rfl, hb⟩; have B2 := Aside0.mk (below_step B1.out hb); clear hb)
        | ((with_reducible refine (HR.out _).mono ?_); rintro e w3 ⟨rfl, hb⟩; have B3 := Aside0.mk (below_step B2.out hb); clear hb)
        | (refine st_arr rfl 44 (.tmp 5) (.tmp 17) rfl w3.heap.size (xs := num r) rfl rfl (blk_new w3 (.cells (arr .u64 z4) 44)) (m := 4) (by kernel_rfl) (num_length _) (by rw [num_length]; rfl) ?_; intro w4 h1 h2 h4 h3; have G4 := Aside0.mk h1; have B4 := Aside0.mk (h3 _ _ (below_alloc B3.out _) B3.out.size); clear h1 h2 h3 h4))
      go_ret2
      exact ⟨_, rfl, Kd.R_nil _ _ _ _ _, B4.out⟩
  · rw [if_neg ho] at h; cases h


end Go.Proofs.Ytijeackkgcnbgaa.XH
