-- Written by a program of this session (xp.py over the kit's printer, with functions proved by hand). Lean checks it.
import Derived.Test.YtijeackkgcnbgaaXOx0
import Derived.Test.YtijeackkgcnbgaaXOx7
import Derived.Test.YtijeackkgcnbgaaXOx5
import Derived.Test.YtijeackkgcnbgaaXOx6
import Derived.Test.YtijeackkgcnbgaaXOx1
namespace Go.Proofs.Ytijeackkgcnbgaa.XO
open Go.Proofs.Ytijeackkgcnbgaa.Limb Go.Proofs.Ytijeackkgcnbgaa.Arr Go.Proofs.Ytijeackkgcnbgaa.FldA Go.Proofs.Ytijeackkgcnbgaa.FldB Go.Proofs.Ytijeackkgcnbgaa.FldC Go.Proofs.Ytijeackkgcnbgaa.FldS Go.Proofs.Ytijeackkgcnbgaa.FldP Go.Proofs.Ytijeackkgcnbgaa.FldW Go.Proofs.Ytijeackkgcnbgaa.FldM Go.Proofs.Ytijeackkgcnbgaa.FldT Go.Proofs.Ytijeackkgcnbgaa.FldRoot Go.Proofs.Ytijeackkgcnbgaa.FldRoot2 Go.Proofs.Ytijeackkgcnbgaa.FldPt Go.Proofs.Ytijeackkgcnbgaa.St Go.Proofs.Ytijeackkgcnbgaa.StOps Go.Proofs.Ytijeackkgcnbgaa.StMid Go.Proofs.Ytijeackkgcnbgaa.StEq Go.Proofs.Ytijeackkgcnbgaa.StPt Go.Proofs.Ytijeackkgcnbgaa.StIdx
open Go.RowKit Go.Proofs.YtijeackkgcnbgaaW.PrintWords Go.Proofs.YtijeackkgcnbgaaW.PrintLast Go.Proofs.YtijeackkgcnbgaaW.PrintMore
attribute [local go_sem] max2_int min2_int max_two min_two max_three min_three max_four min_four   -- for this text's walks alone
set_option linter.unusedVariables false
set_option linter.unusedSimpArgs false

/-! ### impl_element_root: function 73 -/
set_option maxHeartbeats 4000000 in
set_option maxRecDepth 100000 in
theorem impl_element_root.calls (a : Nat) (w : World) (ha : a < PP) :
    Calls Try.prog 73 #[.agg (arr .u64 (num a))] w fun e w' => e = .returned (.tuple #[.agg (arr .u64 (num (if rtOk a = true then rtV a else 0))), .bool (rtOk a)]) ∧ Below w.heap.size w w' := by
  have hPB : PP < BB := by decide
  have HW := Aside0.mk (fun W => (show Calls Try.prog 96 #[.agg (arr .u64 (num a)), .agg #[.int .u64 18446744073709551614, .int .u64 18446744073709551615, .int .u64 18446744073709551615, .int .u64 1152921504606846975]] W _ from by
    have h := impl_element_power.calls a eR W (Nat.lt_trans ha hPB) (by decide)
    rw [num_eR] at h
    exact h))
  obtain ⟨x, hx⟩ : ∃ x, x = rt0 a := ⟨_, rfl⟩
  obtain ⟨z, hz⟩ : ∃ z, z = rt1 a := ⟨_, rfl⟩
  have HXx := Aside0.mk (show x < PP by rw [hx]; exact rt0_lt a)
  have HXz := Aside0.mk (show z < PP by rw [hz]; exact rt1_lt a)
  have HMx := Aside0.mk (fun W => impl_element_times.calls x x W (Nat.lt_trans HXx.out hPB) (Nat.lt_trans HXx.out hPB))
  have HMz := Aside0.mk (fun W => impl_element_times.calls z z W (Nat.lt_trans HXz.out hPB) (Nat.lt_trans HXz.out hPB))
  have HMi := Aside0.mk (fun W => impl_element_times.calls x imaginaryN W (Nat.lt_trans HXx.out hPB) (by decide))
  rw [show a ^ eR % PP = x from hx.symm] at HW
  have E1 := Aside0.mk (show z = if x * x % PP = a then x else x * imaginaryN % PP by rw [hz, hx]; rfl)
  have EO := Aside0.mk (show rtOk a = decide (z * z % PP = a) by rw [hz]; rfl)
  have ER := Aside0.mk hz
  have hEx : ∀ W, (Op.equalIn 10000 44 (.agg (arr .u64 (num (x * x % PP)))) (.agg (arr .u64 (num a)))).run Try.prog W = .ok (decide (x * x % PP = a)) W := fun W => by
    have h := run_eq_arr (P := Try.prog) (w := W) 9998 44 34 4 .u64 .u64 (num (x * x % PP)) (num a) Try.underlying44 (by kernel_rfl) (by kernel_rfl) Try.underlying34 (num_length _) (num_length _)
    rw [num_inj _ _ (Nat.mod_lt _ PP_pos) ha] at h
    exact h
  have hEz : ∀ W, (Op.equalIn 10000 44 (.agg (arr .u64 (num (z * z % PP)))) (.agg (arr .u64 (num a)))).run Try.prog W = .ok (decide (z * z % PP = a)) W := fun W => by
    have h := run_eq_arr (P := Try.prog) (w := W) 9998 44 34 4 .u64 .u64 (num (z * z % PP)) (num a) Try.underlying44 (by kernel_rfl) (by kernel_rfl) Try.underlying34 (num_length _) (num_length _)
    rw [num_inj _ _ (Nat.mod_lt _ PP_pos) ha] at h
    exact h
  clear hx hz hPB ha
  generalize hq : x * x % PP = q at *
  generalize hp : z * z % PP = p at *
  generalize hi : x * imaginaryN % PP = xi at *
  have S := Aside0.mk (((St.start w).push rfl 44 .u64 (num a)).push (World.size_alloc ..) 44 .u64 z4)
  by_cases h0 : q = a
  · have e1 : z = x := by rw [E1.out, if_pos h0]
    have e2 : p = q := by rw [← hp, ← hq, e1]
    have hok : rtOk a = true := by rw [EO.out, e2, decide_eq_true h0]
    rw [hok, if_pos rfl]
    rw [e2, decide_eq_true h0] at hEz
    rw [decide_eq_true h0] at hEx
    rw [e1] at ER
    clear hEz HMz HXz e2 e1 hok hq hp hi h0 E1 EO
    go_enter Try.func73, Try.ntmps73
    go_wp2_with (first
      | ((with_reducible refine gate_dst (N := 5) rfl ?_); refine ld_arr rfl 44 (.tmp 1) rfl w.heap.size rfl (S.out.blk 0 rfl) Try.underlying44 (m := 4) (by kernel_rfl) (num_length _) ?_)
      | ((refine (HW.out _).mono ?_); rintro e w1 ⟨rfl, hb⟩; have S1 := Aside0.mk (S.out.step hb); clear hb)
      | (refine st_arr rfl 44 (.tmp 4) (.tmp 7) rfl w1.heap.size (xs := num x) rfl rfl (blk_new w1 (.cells (arr .u64 z4) 44)) (m := 4) (by kernel_rfl) (num_length _) (by rw [num_length]; rfl) ?_; intro w2 h1 h2 h4 h3; have A0 := Aside0.mk (blk_drew h1); have V0 := Aside0.mk (St.other (S1.out.alloc (.cells (arr .u64 z4) 44)) h2 h3 S1.out.size).drew; clear h1 h2 h3 h4))
    have HG := Aside0.mk S1.out.size
    generalize w1.heap.size = g at *
    clear S1 S
    go_wp2
    refine start_ (n := 5) (S := fun w' => St w [⟨44, .u64, num a⟩, ⟨44, .u64, z4⟩] w' ∧ w'.heap[g]? = some (.cells (arr .u64 (num x)) 44 (0, 0))) (ds := []) #[false, false, false, false, false] (by kernel_rfl) rfl rfl ⟨V0.out, A0.out⟩ (fun hHeld => ?_)
    refine take_ (i := 0) (N := some 8) (v := ?_) (a' := ?_) #[true, false, false, false, false] rfl rfl (by kernel_rfl) (fun _ _ _ h => h) (Or.inl ⟨by rfl, ?_⟩) hHeld ?_ ?_
    rotate_left
    · rintro w' ⟨s0, s1⟩
      refine (run_ld 44 (.tmp 4) (by rfl) g (by rfl) s1 Try.underlying44 (m := 4) (by kernel_rfl) (num_length _)).trans ?_; with_reducible rfl
    rotate_left
    · simp only [Act.put, OpenRow.s1, OpenRow.s2, OpenRow.s3, i64_w, i32_w]; rfl
    refine take_ (i := 1) (N := some 9) (v := ?_) (a' := ?_) #[true, true, false, false, false] rfl rfl (by kernel_rfl) (fun _ _ _ h => h) (Or.inl ⟨by rfl, ?_⟩) hHeld ?_ ?_
    rotate_left
    · rintro w' ⟨s0, s1⟩
      refine (run_ld 44 (.tmp 4) (by rfl) g (by rfl) s1 Try.underlying44 (m := 4) (by kernel_rfl) (num_length _)).trans ?_; with_reducible rfl
    rotate_left
    · simp only [Act.put, OpenRow.s1, OpenRow.s2, OpenRow.s3, i64_w, i32_w]; rfl
    refine take_ (i := 3) (N := some 11) (v := ?_) (a' := ?_) #[true, true, false, true, false] rfl rfl (by kernel_rfl) (fun _ _ _ h => h) (Or.inl ⟨by rfl, ?_⟩) hHeld ?_ ?_
    rotate_left
    · rintro w' ⟨s0, s1⟩
      refine (run_ld 44 (.tmp 1) (by rfl) w.heap.size (by rfl) (s0.blk 0 rfl) Try.underlying44 (m := 4) (by kernel_rfl) (num_length _)).trans ?_; with_reducible rfl
    rotate_left
    · simp only [Act.put, OpenRow.s1, OpenRow.s2, OpenRow.s3, i64_w, i32_w]; rfl
    refine one_ (i := 2) (N := some 10) #[true, true, true, true, false] rfl rfl (by kernel_rfl) (by decide) (fun K hK => ?_)
    refine goes_ Try.func65 (by kernel_rfl) rfl #[.agg (arr .u64 (num x)), .agg (arr .u64 (num x))] (by rfl) rfl rfl (by simp only [List.map_toArray, List.map_cons, List.map_nil] <;> rfl) ?_
    with_reducible refine (HMx.out _).mono ?_
    rintro e w3 ⟨rfl, hb⟩
    refine ⟨_, rfl, ?_⟩
    have V1 := Aside0.mk (V0.out.step hb)
    have A1 := Aside0.mk (blk_below A0.out hb)
    clear hb
    refine hK.out _ _ ⟨V1.out, A1.out⟩ (fun hHeld => ?_)
    clear hK K
    refine norm_ (a' := ?_) ?_ ?_
    rotate_left
    · show Act.put _ (some 10) _ = _
      simp only [Act.put, OpenRow.s1, OpenRow.s2, OpenRow.s3, i64_w, i32_w]
      rfl
    refine pure_ (i := 4) (N := some 12) (v := ?_) (a' := ?_) #[true, true, true, true, true] rfl rfl (by kernel_rfl) (fun _ _ _ h => h) (Or.inl ⟨by rfl, ?_⟩) ?_ ?_
    rotate_left
    · intro w'; go_simp; with_reducible rfl
    rotate_left
    · simp only [Act.put, OpenRow.s1, OpenRow.s2, OpenRow.s3, i64_w, i32_w]; rfl
    refine done_ (by kernel_rfl) ?_

    go_wp2
    have V2 := Aside0.mk V1.out.drew
    have A2 := Aside0.mk (blk_drew A1.out)

    refine start_ (n := 5) (S := fun w' => St w [⟨44, .u64, num a⟩, ⟨44, .u64, z4⟩] w' ∧ w'.heap[g]? = some (.cells (arr .u64 (num x)) 44 (0, 0))) (ds := []) #[false, false, false, false, false] (by kernel_rfl) rfl rfl ⟨V2.out, A2.out⟩ (fun hHeld => ?_)
    refine take_ (i := 0) (N := some 16) (v := ?_) (a' := ?_) #[true, false, false, false, false] rfl rfl (by kernel_rfl) (fun _ _ _ h => h) (Or.inl ⟨by rfl, ?_⟩) hHeld ?_ ?_
    rotate_left
    · rintro w' ⟨s0, s1⟩
      refine (run_ld 44 (.tmp 4) (by rfl) g (by rfl) s1 Try.underlying44 (m := 4) (by kernel_rfl) (num_length _)).trans ?_; with_reducible rfl
    rotate_left
    · simp only [Act.put, OpenRow.s1, OpenRow.s2, OpenRow.s3, i64_w, i32_w]; rfl
    refine take_ (i := 1) (N := some 17) (v := ?_) (a' := ?_) #[true, true, false, false, false] rfl rfl (by kernel_rfl) (fun _ _ _ h => h) (Or.inl ⟨by rfl, ?_⟩) hHeld ?_ ?_
    rotate_left
    · rintro w' ⟨s0, s1⟩
      refine (run_ld 44 (.tmp 4) (by rfl) g (by rfl) s1 Try.underlying44 (m := 4) (by kernel_rfl) (num_length _)).trans ?_; with_reducible rfl
    rotate_left
    · simp only [Act.put, OpenRow.s1, OpenRow.s2, OpenRow.s3, i64_w, i32_w]; rfl
    refine take_ (i := 3) (N := some 19) (v := ?_) (a' := ?_) #[true, true, false, true, false] rfl rfl (by kernel_rfl) (fun _ _ _ h => h) (Or.inl ⟨by rfl, ?_⟩) hHeld ?_ ?_
    rotate_left
    · rintro w' ⟨s0, s1⟩
      refine (run_ld 44 (.tmp 1) (by rfl) w.heap.size (by rfl) (s0.blk 0 rfl) Try.underlying44 (m := 4) (by kernel_rfl) (num_length _)).trans ?_; with_reducible rfl
    rotate_left
    · simp only [Act.put, OpenRow.s1, OpenRow.s2, OpenRow.s3, i64_w, i32_w]; rfl
    refine one_ (i := 2) (N := some 18) #[true, true, true, true, false] rfl rfl (by kernel_rfl) (by decide) (fun K hK => ?_)
    refine goes_ Try.func65 (by kernel_rfl) rfl #[.agg (arr .u64 (num x)), .agg (arr .u64 (num x))] (by rfl) rfl rfl (by simp only [List.map_toArray, List.map_cons, List.map_nil] <;> rfl) ?_
    with_reducible refine (HMx.out _).mono ?_
    rintro e w3 ⟨rfl, hb⟩
    refine ⟨_, rfl, ?_⟩
    have V3 := Aside0.mk (V2.out.step hb)
    have A3 := Aside0.mk (blk_below A2.out hb)
    clear hb
    refine hK.out _ _ ⟨V3.out, A3.out⟩ (fun hHeld => ?_)
    clear hK K
    refine norm_ (a' := ?_) ?_ ?_
    rotate_left
    · show Act.put _ (some 18) _ = _
      simp only [Act.put, OpenRow.s1, OpenRow.s2, OpenRow.s3, i64_w, i32_w]
      rfl
    refine pure_ (i := 4) (N := some 20) (v := ?_) (a' := ?_) #[true, true, true, true, true] rfl rfl (by kernel_rfl) (fun _ _ _ h => h) (Or.inl ⟨by rfl, ?_⟩) ?_ ?_
    rotate_left
    · intro w'; go_simp; with_reducible rfl
    rotate_left
    · simp only [Act.put, OpenRow.s1, OpenRow.s2, OpenRow.s3, i64_w, i32_w]; rfl
    refine done_ (by kernel_rfl) ?_

    rcases Nat.mod_two_eq_zero_or_one x with ho | ho
    · have EV := Aside0.mk (show rtV a = x by unfold rtV; rw [← ER.out, if_neg (by omega)])
      have HO := Aside0.mk (fun W => impl_element_isOdd.calls x W)
      rw [decide_eq_false (by omega)] at HO
      clear ho
      go_wp2_with (first
        | ((with_reducible refine gate_dst (N := 22) rfl ?_); refine ld_arr rfl 44 (.tmp 4) rfl g rfl A3.out Try.underlying44 (m := 4) (by kernel_rfl) (num_length _) ?_)
        | ((with_reducible refine (HO.out _).mono ?_); rintro e w8 ⟨rfl, hb⟩; have V8 := Aside0.mk (V3.out.step hb); have A8 := Aside0.mk (blk_below A3.out hb); clear hb)
        | ((with_reducible refine gate_dst (N := 26) rfl ?_); refine ld_arr rfl 44 (.tmp 4) rfl g rfl A8.out Try.underlying44 (m := 4) (by kernel_rfl) (num_length _) ?_)
        | (refine st_arr rfl 44 (.tmp 2) (.tmp 26) rfl (w.heap.size + 1) (xs := num x) rfl rfl (V8.out.blk 1 rfl) (m := 4) (by kernel_rfl) (num_length _) (by rw [num_length]; rfl) ?_; intro w' h1 h2 h4 h3; have H1 := Aside0.mk h1; have V9 := Aside0.mk (V8.out.row 1 rfl h1 h2 h3); clear h1 h2 h3 h4))
      exact bodyPost_ret (results_ct Try.results73 _ _ (w.heap.size + 1) 44 _ (0, 0) _ rfl H1.out Try.underlying44 rfl (by rw [arr_size, num_length]; kernel_rfl)) rfl ⟨by rw [EV.out]; rfl, V9.out.below⟩
    · have EV := Aside0.mk (show rtV a = (PP - x) % PP by unfold rtV; rw [← ER.out, if_pos ho])
      have HO := Aside0.mk (fun W => impl_element_isOdd.calls x W)
      rw [decide_eq_true ho] at HO
      have HN := Aside0.mk (fun W => impl_element_negative.calls x W HXx.out)
      clear ho
      generalize (PP - x) % PP = y at *
      go_wp2_with (first
        | ((with_reducible refine gate_dst (N := 22) rfl ?_); refine ld_arr rfl 44 (.tmp 4) rfl g rfl A3.out Try.underlying44 (m := 4) (by kernel_rfl) (num_length _) ?_)
        | ((with_reducible refine (HO.out _).mono ?_); rintro e w8 ⟨rfl, hb⟩; have V8 := Aside0.mk (V3.out.step hb); have A8 := Aside0.mk (blk_below A3.out hb); clear hb)
        | ((with_reducible refine gate_dst (N := 24) rfl ?_); refine ld_arr rfl 44 (.tmp 4) rfl g rfl A8.out Try.underlying44 (m := 4) (by kernel_rfl) (num_length _) ?_)
        | ((with_reducible refine (HN.out _).mono ?_); rintro e w9 ⟨rfl, hb⟩; have V9 := Aside0.mk (V8.out.step hb); have A9 := Aside0.mk (blk_below A8.out hb); clear hb)
        | (refine st_arr rfl 44 (.tmp 4) (.tmp 25) rfl g (xs := num y) rfl rfl A9.out (m := 4) (by kernel_rfl) (num_length _) (by rw [num_length, num_length]) ?_; intro w10 h1 h2 h4 h3; have A10 := Aside0.mk h1; have V10 := Aside0.mk (St.other V9.out h2 h3 HG.out); clear h1 h2 h3 h4)
        | ((with_reducible refine gate_dst (N := 26) rfl ?_); refine ld_arr rfl 44 (.tmp 4) rfl g rfl A10.out Try.underlying44 (m := 4) (by kernel_rfl) (num_length _) ?_)
        | (refine st_arr rfl 44 (.tmp 2) (.tmp 26) rfl (w.heap.size + 1) (xs := num y) rfl rfl (V10.out.blk 1 rfl) (m := 4) (by kernel_rfl) (num_length _) (by rw [num_length]; rfl) ?_; intro w' h1 h2 h4 h3; have H1 := Aside0.mk h1; have V11 := Aside0.mk (V10.out.row 1 rfl h1 h2 h3); clear h1 h2 h3 h4))
      exact bodyPost_ret (results_ct Try.results73 _ _ (w.heap.size + 1) 44 _ (0, 0) _ rfl H1.out Try.underlying44 rfl (by rw [arr_size, num_length]; kernel_rfl)) rfl ⟨by rw [EV.out]; rfl, V11.out.below⟩
  · rw [if_neg h0] at E1
    have e1 := E1.out
    subst e1
    rw [decide_eq_false h0] at hEx
    by_cases h1 : p = a
    · have hok : rtOk a = true := by rw [EO.out, decide_eq_true h1]
      rw [hok, if_pos rfl]
      rw [decide_eq_true h1] at hEz
      clear hok hq hp hi h0 h1 E1 EO
      go_enter Try.func73, Try.ntmps73
      go_wp2_with (first
        | ((with_reducible refine gate_dst (N := 5) rfl ?_); refine ld_arr rfl 44 (.tmp 1) rfl w.heap.size rfl (S.out.blk 0 rfl) Try.underlying44 (m := 4) (by kernel_rfl) (num_length _) ?_)
        | ((refine (HW.out _).mono ?_); rintro e w1 ⟨rfl, hb⟩; have S1 := Aside0.mk (S.out.step hb); clear hb)
        | (refine st_arr rfl 44 (.tmp 4) (.tmp 7) rfl w1.heap.size (xs := num x) rfl rfl (blk_new w1 (.cells (arr .u64 z4) 44)) (m := 4) (by kernel_rfl) (num_length _) (by rw [num_length]; rfl) ?_; intro w2 h1 h2 h4 h3; have A0 := Aside0.mk (blk_drew h1); have V0 := Aside0.mk (St.other (S1.out.alloc (.cells (arr .u64 z4) 44)) h2 h3 S1.out.size).drew; clear h1 h2 h3 h4))
      have HG := Aside0.mk S1.out.size
      generalize w1.heap.size = g at *
      clear S1 S
      go_wp2
      refine start_ (n := 5) (S := fun w' => St w [⟨44, .u64, num a⟩, ⟨44, .u64, z4⟩] w' ∧ w'.heap[g]? = some (.cells (arr .u64 (num x)) 44 (0, 0))) (ds := []) #[false, false, false, false, false] (by kernel_rfl) rfl rfl ⟨V0.out, A0.out⟩ (fun hHeld => ?_)
      refine take_ (i := 0) (N := some 8) (v := ?_) (a' := ?_) #[true, false, false, false, false] rfl rfl (by kernel_rfl) (fun _ _ _ h => h) (Or.inl ⟨by rfl, ?_⟩) hHeld ?_ ?_
      rotate_left
      · rintro w' ⟨s0, s1⟩
        refine (run_ld 44 (.tmp 4) (by rfl) g (by rfl) s1 Try.underlying44 (m := 4) (by kernel_rfl) (num_length _)).trans ?_; with_reducible rfl
      rotate_left
      · simp only [Act.put, OpenRow.s1, OpenRow.s2, OpenRow.s3, i64_w, i32_w]; rfl
      refine take_ (i := 1) (N := some 9) (v := ?_) (a' := ?_) #[true, true, false, false, false] rfl rfl (by kernel_rfl) (fun _ _ _ h => h) (Or.inl ⟨by rfl, ?_⟩) hHeld ?_ ?_
      rotate_left
      · rintro w' ⟨s0, s1⟩
        refine (run_ld 44 (.tmp 4) (by rfl) g (by rfl) s1 Try.underlying44 (m := 4) (by kernel_rfl) (num_length _)).trans ?_; with_reducible rfl
      rotate_left
      · simp only [Act.put, OpenRow.s1, OpenRow.s2, OpenRow.s3, i64_w, i32_w]; rfl
      refine take_ (i := 3) (N := some 11) (v := ?_) (a' := ?_) #[true, true, false, true, false] rfl rfl (by kernel_rfl) (fun _ _ _ h => h) (Or.inl ⟨by rfl, ?_⟩) hHeld ?_ ?_
      rotate_left
      · rintro w' ⟨s0, s1⟩
        refine (run_ld 44 (.tmp 1) (by rfl) w.heap.size (by rfl) (s0.blk 0 rfl) Try.underlying44 (m := 4) (by kernel_rfl) (num_length _)).trans ?_; with_reducible rfl
      rotate_left
      · simp only [Act.put, OpenRow.s1, OpenRow.s2, OpenRow.s3, i64_w, i32_w]; rfl
      refine one_ (i := 2) (N := some 10) #[true, true, true, true, false] rfl rfl (by kernel_rfl) (by decide) (fun K hK => ?_)
      refine goes_ Try.func65 (by kernel_rfl) rfl #[.agg (arr .u64 (num x)), .agg (arr .u64 (num x))] (by rfl) rfl rfl (by simp only [List.map_toArray, List.map_cons, List.map_nil] <;> rfl) ?_
      with_reducible refine (HMx.out _).mono ?_
      rintro e w3 ⟨rfl, hb⟩
      refine ⟨_, rfl, ?_⟩
      have V1 := Aside0.mk (V0.out.step hb)
      have A1 := Aside0.mk (blk_below A0.out hb)
      clear hb
      refine hK.out _ _ ⟨V1.out, A1.out⟩ (fun hHeld => ?_)
      clear hK K
      refine norm_ (a' := ?_) ?_ ?_
      rotate_left
      · show Act.put _ (some 10) _ = _
        simp only [Act.put, OpenRow.s1, OpenRow.s2, OpenRow.s3, i64_w, i32_w]
        rfl
      refine pure_ (i := 4) (N := some 12) (v := ?_) (a' := ?_) #[true, true, true, true, true] rfl rfl (by kernel_rfl) (fun _ _ _ h => h) (Or.inl ⟨by rfl, ?_⟩) ?_ ?_
      rotate_left
      · intro w'; go_simp; with_reducible rfl
      rotate_left
      · simp only [Act.put, OpenRow.s1, OpenRow.s2, OpenRow.s3, i64_w, i32_w]; rfl
      refine done_ (by kernel_rfl) ?_

      go_wp2
      have V2 := Aside0.mk V1.out.drew
      have A2 := Aside0.mk (blk_drew A1.out)

      refine start_ (n := 4) (S := fun w' => St w [⟨44, .u64, num a⟩, ⟨44, .u64, z4⟩] w' ∧ w'.heap[g]? = some (.cells (arr .u64 (num x)) 44 (0, 0))) (ds := [3]) #[false, false, false, false] (by kernel_rfl) rfl rfl ⟨V2.out, A2.out⟩ (fun hHeld => ?_)
      refine take_ (i := 0) (N := some 13) (v := ?_) (a' := ?_) #[true, false, false, false] rfl rfl (by kernel_rfl) (fun _ _ _ h => h) (Or.inl ⟨by rfl, ?_⟩) hHeld ?_ ?_
      rotate_left
      · rintro w' ⟨s0, s1⟩
        refine (run_ld 44 (.tmp 4) (by rfl) g (by rfl) s1 Try.underlying44 (m := 4) (by kernel_rfl) (num_length _)).trans ?_; with_reducible rfl
      rotate_left
      · simp only [Act.put, OpenRow.s1, OpenRow.s2, OpenRow.s3, i64_w, i32_w]; rfl
      refine one_ (i := 1) (N := some 14) #[true, true, false, false] rfl rfl (by kernel_rfl) (by decide) (fun K hK => ?_)
      refine goes_ Try.func98 (by kernel_rfl) rfl #[] (by rfl) rfl rfl (by simp only [List.map_toArray, List.map_cons, List.map_nil] <;> rfl) ?_
      with_reducible refine (impl_imaginary.calls _).mono ?_
      rintro e w3 ⟨rfl, hb⟩
      refine ⟨_, rfl, ?_⟩
      have V5 := Aside0.mk (V2.out.step hb)
      have A5 := Aside0.mk (blk_below A2.out hb)
      clear hb
      refine hK.out _ _ ⟨V5.out, A5.out⟩ (fun hHeld => ?_)
      clear hK K
      refine norm_ (a' := ?_) ?_ ?_
      rotate_left
      · show Act.put _ (some 14) _ = _
        simp only [Act.put, OpenRow.s1, OpenRow.s2, OpenRow.s3, i64_w, i32_w]
        rfl
      refine one_ (i := 2) (N := some 15) #[true, true, true, false] rfl rfl (by kernel_rfl) (by decide) (fun K hK => ?_)
      refine goes_ Try.func65 (by kernel_rfl) rfl #[.agg (arr .u64 (num x)), .agg (arr .u64 (num imaginaryN))] (by rfl) rfl rfl (by simp only [List.map_toArray, List.map_cons, List.map_nil] <;> rfl) ?_
      with_reducible refine (HMi.out _).mono ?_
      rintro e w3 ⟨rfl, hb⟩
      refine ⟨_, rfl, ?_⟩
      have V6 := Aside0.mk (V5.out.step hb)
      have A6 := Aside0.mk (blk_below A5.out hb)
      clear hb
      refine hK.out _ _ ⟨V6.out, A6.out⟩ (fun hHeld => ?_)
      clear hK K
      refine norm_ (a' := ?_) ?_ ?_
      rotate_left
      · show Act.put _ (some 15) _ = _
        simp only [Act.put, OpenRow.s1, OpenRow.s2, OpenRow.s3, i64_w, i32_w]
        rfl
      refine last_ (i := 3) (N := none) #[true, true, true, true] rfl rfl (by kernel_rfl) (by decide) (fun K hK => ?_)
      refine st_step (by rfl) rfl 44 (.tmp 4) (.tmp 15) rfl g rfl rfl A6.out (m := 4) (by kernel_rfl) (num_length _) (by rw [num_length, num_length]) ?_
      intro w6 h1 h2 h3 h4
      have A7 := Aside0.mk h1
      have V7 := Aside0.mk (St.other V6.out h2 h3 HG.out)
      clear h1 h2 h3 h4
      refine hK.out _ _ ?_
      clear hK K
      refine done_ (by kernel_rfl) ?_

      go_wp2
      have V8 := Aside0.mk V7.out.drew
      have A8 := Aside0.mk (blk_drew A7.out)

      refine start_ (n := 5) (S := fun w' => St w [⟨44, .u64, num a⟩, ⟨44, .u64, z4⟩] w' ∧ w'.heap[g]? = some (.cells (arr .u64 (num z)) 44 (0, 0))) (ds := []) #[false, false, false, false, false] (by kernel_rfl) rfl rfl ⟨V8.out, A8.out⟩ (fun hHeld => ?_)
      refine take_ (i := 0) (N := some 16) (v := ?_) (a' := ?_) #[true, false, false, false, false] rfl rfl (by kernel_rfl) (fun _ _ _ h => h) (Or.inl ⟨by rfl, ?_⟩) hHeld ?_ ?_
      rotate_left
      · rintro w' ⟨s0, s1⟩
        refine (run_ld 44 (.tmp 4) (by rfl) g (by rfl) s1 Try.underlying44 (m := 4) (by kernel_rfl) (num_length _)).trans ?_; with_reducible rfl
      rotate_left
      · simp only [Act.put, OpenRow.s1, OpenRow.s2, OpenRow.s3, i64_w, i32_w]; rfl
      refine take_ (i := 1) (N := some 17) (v := ?_) (a' := ?_) #[true, true, false, false, false] rfl rfl (by kernel_rfl) (fun _ _ _ h => h) (Or.inl ⟨by rfl, ?_⟩) hHeld ?_ ?_
      rotate_left
      · rintro w' ⟨s0, s1⟩
        refine (run_ld 44 (.tmp 4) (by rfl) g (by rfl) s1 Try.underlying44 (m := 4) (by kernel_rfl) (num_length _)).trans ?_; with_reducible rfl
      rotate_left
      · simp only [Act.put, OpenRow.s1, OpenRow.s2, OpenRow.s3, i64_w, i32_w]; rfl
      refine take_ (i := 3) (N := some 19) (v := ?_) (a' := ?_) #[true, true, false, true, false] rfl rfl (by kernel_rfl) (fun _ _ _ h => h) (Or.inl ⟨by rfl, ?_⟩) hHeld ?_ ?_
      rotate_left
      · rintro w' ⟨s0, s1⟩
        refine (run_ld 44 (.tmp 1) (by rfl) w.heap.size (by rfl) (s0.blk 0 rfl) Try.underlying44 (m := 4) (by kernel_rfl) (num_length _)).trans ?_; with_reducible rfl
      rotate_left
      · simp only [Act.put, OpenRow.s1, OpenRow.s2, OpenRow.s3, i64_w, i32_w]; rfl
      refine one_ (i := 2) (N := some 18) #[true, true, true, true, false] rfl rfl (by kernel_rfl) (by decide) (fun K hK => ?_)
      refine goes_ Try.func65 (by kernel_rfl) rfl #[.agg (arr .u64 (num z)), .agg (arr .u64 (num z))] (by rfl) rfl rfl (by simp only [List.map_toArray, List.map_cons, List.map_nil] <;> rfl) ?_
      with_reducible refine (HMz.out _).mono ?_
      rintro e w3 ⟨rfl, hb⟩
      refine ⟨_, rfl, ?_⟩
      have V9 := Aside0.mk (V8.out.step hb)
      have A9 := Aside0.mk (blk_below A8.out hb)
      clear hb
      refine hK.out _ _ ⟨V9.out, A9.out⟩ (fun hHeld => ?_)
      clear hK K
      refine norm_ (a' := ?_) ?_ ?_
      rotate_left
      · show Act.put _ (some 18) _ = _
        simp only [Act.put, OpenRow.s1, OpenRow.s2, OpenRow.s3, i64_w, i32_w]
        rfl
      refine pure_ (i := 4) (N := some 20) (v := ?_) (a' := ?_) #[true, true, true, true, true] rfl rfl (by kernel_rfl) (fun _ _ _ h => h) (Or.inl ⟨by rfl, ?_⟩) ?_ ?_
      rotate_left
      · intro w'; go_simp; with_reducible rfl
      rotate_left
      · simp only [Act.put, OpenRow.s1, OpenRow.s2, OpenRow.s3, i64_w, i32_w]; rfl
      refine done_ (by kernel_rfl) ?_

      rcases Nat.mod_two_eq_zero_or_one z with ho | ho
      · have EV := Aside0.mk (show rtV a = z by unfold rtV; rw [← ER.out, if_neg (by omega)])
        have HO := Aside0.mk (fun W => impl_element_isOdd.calls z W)
        rw [decide_eq_false (by omega)] at HO
        clear ho
        go_wp2_with (first
          | ((with_reducible refine gate_dst (N := 22) rfl ?_); refine ld_arr rfl 44 (.tmp 4) rfl g rfl A9.out Try.underlying44 (m := 4) (by kernel_rfl) (num_length _) ?_)
          | ((with_reducible refine (HO.out _).mono ?_); rintro e w8 ⟨rfl, hb⟩; have V8 := Aside0.mk (V9.out.step hb); have A8 := Aside0.mk (blk_below A9.out hb); clear hb)
          | ((with_reducible refine gate_dst (N := 26) rfl ?_); refine ld_arr rfl 44 (.tmp 4) rfl g rfl A8.out Try.underlying44 (m := 4) (by kernel_rfl) (num_length _) ?_)
          | (refine st_arr rfl 44 (.tmp 2) (.tmp 26) rfl (w.heap.size + 1) (xs := num z) rfl rfl (V8.out.blk 1 rfl) (m := 4) (by kernel_rfl) (num_length _) (by rw [num_length]; rfl) ?_; intro w' h1 h2 h4 h3; have H1 := Aside0.mk h1; have V9 := Aside0.mk (V8.out.row 1 rfl h1 h2 h3); clear h1 h2 h3 h4))
        exact bodyPost_ret (results_ct Try.results73 _ _ (w.heap.size + 1) 44 _ (0, 0) _ rfl H1.out Try.underlying44 rfl (by rw [arr_size, num_length]; kernel_rfl)) rfl ⟨by rw [EV.out]; rfl, V9.out.below⟩
      · have EV := Aside0.mk (show rtV a = (PP - z) % PP by unfold rtV; rw [← ER.out, if_pos ho])
        have HO := Aside0.mk (fun W => impl_element_isOdd.calls z W)
        rw [decide_eq_true ho] at HO
        have HN := Aside0.mk (fun W => impl_element_negative.calls z W HXz.out)
        clear ho
        generalize (PP - z) % PP = y at *
        go_wp2_with (first
          | ((with_reducible refine gate_dst (N := 22) rfl ?_); refine ld_arr rfl 44 (.tmp 4) rfl g rfl A9.out Try.underlying44 (m := 4) (by kernel_rfl) (num_length _) ?_)
          | ((with_reducible refine (HO.out _).mono ?_); rintro e w8 ⟨rfl, hb⟩; have V8 := Aside0.mk (V9.out.step hb); have A8 := Aside0.mk (blk_below A9.out hb); clear hb)
          | ((with_reducible refine gate_dst (N := 24) rfl ?_); refine ld_arr rfl 44 (.tmp 4) rfl g rfl A8.out Try.underlying44 (m := 4) (by kernel_rfl) (num_length _) ?_)
          | ((with_reducible refine (HN.out _).mono ?_); rintro e w9 ⟨rfl, hb⟩; have V9 := Aside0.mk (V8.out.step hb); have A9 := Aside0.mk (blk_below A8.out hb); clear hb)
          | (refine st_arr rfl 44 (.tmp 4) (.tmp 25) rfl g (xs := num y) rfl rfl A9.out (m := 4) (by kernel_rfl) (num_length _) (by rw [num_length, num_length]) ?_; intro w10 h1 h2 h4 h3; have A10 := Aside0.mk h1; have V10 := Aside0.mk (St.other V9.out h2 h3 HG.out); clear h1 h2 h3 h4)
          | ((with_reducible refine gate_dst (N := 26) rfl ?_); refine ld_arr rfl 44 (.tmp 4) rfl g rfl A10.out Try.underlying44 (m := 4) (by kernel_rfl) (num_length _) ?_)
          | (refine st_arr rfl 44 (.tmp 2) (.tmp 26) rfl (w.heap.size + 1) (xs := num y) rfl rfl (V10.out.blk 1 rfl) (m := 4) (by kernel_rfl) (num_length _) (by rw [num_length]; rfl) ?_; intro w' h1 h2 h4 h3; have H1 := Aside0.mk h1; have V11 := Aside0.mk (V10.out.row 1 rfl h1 h2 h3); clear h1 h2 h3 h4))
        exact bodyPost_ret (results_ct Try.results73 _ _ (w.heap.size + 1) 44 _ (0, 0) _ rfl H1.out Try.underlying44 rfl (by rw [arr_size, num_length]; kernel_rfl)) rfl ⟨by rw [EV.out]; rfl, V11.out.below⟩
    · have hok : rtOk a = false := by rw [EO.out, decide_eq_false h1]
      rw [hok, if_neg (by decide), show num 0 = [0, 0, 0, 0] from by decide]
      rw [decide_eq_false h1] at hEz
      clear hok hq hp hi h0 h1 E1 EO
      go_enter Try.func73, Try.ntmps73
      go_wp2_with (first
        | ((with_reducible refine gate_dst (N := 5) rfl ?_); refine ld_arr rfl 44 (.tmp 1) rfl w.heap.size rfl (S.out.blk 0 rfl) Try.underlying44 (m := 4) (by kernel_rfl) (num_length _) ?_)
        | ((refine (HW.out _).mono ?_); rintro e w1 ⟨rfl, hb⟩; have S1 := Aside0.mk (S.out.step hb); clear hb)
        | (refine st_arr rfl 44 (.tmp 4) (.tmp 7) rfl w1.heap.size (xs := num x) rfl rfl (blk_new w1 (.cells (arr .u64 z4) 44)) (m := 4) (by kernel_rfl) (num_length _) (by rw [num_length]; rfl) ?_; intro w2 h1 h2 h4 h3; have A0 := Aside0.mk (blk_drew h1); have V0 := Aside0.mk (St.other (S1.out.alloc (.cells (arr .u64 z4) 44)) h2 h3 S1.out.size).drew; clear h1 h2 h3 h4))
      have HG := Aside0.mk S1.out.size
      generalize w1.heap.size = g at *
      clear S1 S
      go_wp2
      refine start_ (n := 5) (S := fun w' => St w [⟨44, .u64, num a⟩, ⟨44, .u64, z4⟩] w' ∧ w'.heap[g]? = some (.cells (arr .u64 (num x)) 44 (0, 0))) (ds := []) #[false, false, false, false, false] (by kernel_rfl) rfl rfl ⟨V0.out, A0.out⟩ (fun hHeld => ?_)
      refine take_ (i := 0) (N := some 8) (v := ?_) (a' := ?_) #[true, false, false, false, false] rfl rfl (by kernel_rfl) (fun _ _ _ h => h) (Or.inl ⟨by rfl, ?_⟩) hHeld ?_ ?_
      rotate_left
      · rintro w' ⟨s0, s1⟩
        refine (run_ld 44 (.tmp 4) (by rfl) g (by rfl) s1 Try.underlying44 (m := 4) (by kernel_rfl) (num_length _)).trans ?_; with_reducible rfl
      rotate_left
      · simp only [Act.put, OpenRow.s1, OpenRow.s2, OpenRow.s3, i64_w, i32_w]; rfl
      refine take_ (i := 1) (N := some 9) (v := ?_) (a' := ?_) #[true, true, false, false, false] rfl rfl (by kernel_rfl) (fun _ _ _ h => h) (Or.inl ⟨by rfl, ?_⟩) hHeld ?_ ?_
      rotate_left
      · rintro w' ⟨s0, s1⟩
        refine (run_ld 44 (.tmp 4) (by rfl) g (by rfl) s1 Try.underlying44 (m := 4) (by kernel_rfl) (num_length _)).trans ?_; with_reducible rfl
      rotate_left
      · simp only [Act.put, OpenRow.s1, OpenRow.s2, OpenRow.s3, i64_w, i32_w]; rfl
      refine take_ (i := 3) (N := some 11) (v := ?_) (a' := ?_) #[true, true, false, true, false] rfl rfl (by kernel_rfl) (fun _ _ _ h => h) (Or.inl ⟨by rfl, ?_⟩) hHeld ?_ ?_
      rotate_left
      · rintro w' ⟨s0, s1⟩
        refine (run_ld 44 (.tmp 1) (by rfl) w.heap.size (by rfl) (s0.blk 0 rfl) Try.underlying44 (m := 4) (by kernel_rfl) (num_length _)).trans ?_; with_reducible rfl
      rotate_left
      · simp only [Act.put, OpenRow.s1, OpenRow.s2, OpenRow.s3, i64_w, i32_w]; rfl
      refine one_ (i := 2) (N := some 10) #[true, true, true, true, false] rfl rfl (by kernel_rfl) (by decide) (fun K hK => ?_)
      refine goes_ Try.func65 (by kernel_rfl) rfl #[.agg (arr .u64 (num x)), .agg (arr .u64 (num x))] (by rfl) rfl rfl (by simp only [List.map_toArray, List.map_cons, List.map_nil] <;> rfl) ?_
      with_reducible refine (HMx.out _).mono ?_
      rintro e w3 ⟨rfl, hb⟩
      refine ⟨_, rfl, ?_⟩
      have V1 := Aside0.mk (V0.out.step hb)
      have A1 := Aside0.mk (blk_below A0.out hb)
      clear hb
      refine hK.out _ _ ⟨V1.out, A1.out⟩ (fun hHeld => ?_)
      clear hK K
      refine norm_ (a' := ?_) ?_ ?_
      rotate_left
      · show Act.put _ (some 10) _ = _
        simp only [Act.put, OpenRow.s1, OpenRow.s2, OpenRow.s3, i64_w, i32_w]
        rfl
      refine pure_ (i := 4) (N := some 12) (v := ?_) (a' := ?_) #[true, true, true, true, true] rfl rfl (by kernel_rfl) (fun _ _ _ h => h) (Or.inl ⟨by rfl, ?_⟩) ?_ ?_
      rotate_left
      · intro w'; go_simp; with_reducible rfl
      rotate_left
      · simp only [Act.put, OpenRow.s1, OpenRow.s2, OpenRow.s3, i64_w, i32_w]; rfl
      refine done_ (by kernel_rfl) ?_

      go_wp2
      have V2 := Aside0.mk V1.out.drew
      have A2 := Aside0.mk (blk_drew A1.out)

      refine start_ (n := 4) (S := fun w' => St w [⟨44, .u64, num a⟩, ⟨44, .u64, z4⟩] w' ∧ w'.heap[g]? = some (.cells (arr .u64 (num x)) 44 (0, 0))) (ds := [3]) #[false, false, false, false] (by kernel_rfl) rfl rfl ⟨V2.out, A2.out⟩ (fun hHeld => ?_)
      refine take_ (i := 0) (N := some 13) (v := ?_) (a' := ?_) #[true, false, false, false] rfl rfl (by kernel_rfl) (fun _ _ _ h => h) (Or.inl ⟨by rfl, ?_⟩) hHeld ?_ ?_
      rotate_left
      · rintro w' ⟨s0, s1⟩
        refine (run_ld 44 (.tmp 4) (by rfl) g (by rfl) s1 Try.underlying44 (m := 4) (by kernel_rfl) (num_length _)).trans ?_; with_reducible rfl
      rotate_left
      · simp only [Act.put, OpenRow.s1, OpenRow.s2, OpenRow.s3, i64_w, i32_w]; rfl
      refine one_ (i := 1) (N := some 14) #[true, true, false, false] rfl rfl (by kernel_rfl) (by decide) (fun K hK => ?_)
      refine goes_ Try.func98 (by kernel_rfl) rfl #[] (by rfl) rfl rfl (by simp only [List.map_toArray, List.map_cons, List.map_nil] <;> rfl) ?_
      with_reducible refine (impl_imaginary.calls _).mono ?_
      rintro e w3 ⟨rfl, hb⟩
      refine ⟨_, rfl, ?_⟩
      have V5 := Aside0.mk (V2.out.step hb)
      have A5 := Aside0.mk (blk_below A2.out hb)
      clear hb
      refine hK.out _ _ ⟨V5.out, A5.out⟩ (fun hHeld => ?_)
      clear hK K
      refine norm_ (a' := ?_) ?_ ?_
      rotate_left
      · show Act.put _ (some 14) _ = _
        simp only [Act.put, OpenRow.s1, OpenRow.s2, OpenRow.s3, i64_w, i32_w]
        rfl
      refine one_ (i := 2) (N := some 15) #[true, true, true, false] rfl rfl (by kernel_rfl) (by decide) (fun K hK => ?_)
      refine goes_ Try.func65 (by kernel_rfl) rfl #[.agg (arr .u64 (num x)), .agg (arr .u64 (num imaginaryN))] (by rfl) rfl rfl (by simp only [List.map_toArray, List.map_cons, List.map_nil] <;> rfl) ?_
      with_reducible refine (HMi.out _).mono ?_
      rintro e w3 ⟨rfl, hb⟩
      refine ⟨_, rfl, ?_⟩
      have V6 := Aside0.mk (V5.out.step hb)
      have A6 := Aside0.mk (blk_below A5.out hb)
      clear hb
      refine hK.out _ _ ⟨V6.out, A6.out⟩ (fun hHeld => ?_)
      clear hK K
      refine norm_ (a' := ?_) ?_ ?_
      rotate_left
      · show Act.put _ (some 15) _ = _
        simp only [Act.put, OpenRow.s1, OpenRow.s2, OpenRow.s3, i64_w, i32_w]
        rfl
      refine last_ (i := 3) (N := none) #[true, true, true, true] rfl rfl (by kernel_rfl) (by decide) (fun K hK => ?_)
      refine st_step (by rfl) rfl 44 (.tmp 4) (.tmp 15) rfl g rfl rfl A6.out (m := 4) (by kernel_rfl) (num_length _) (by rw [num_length, num_length]) ?_
      intro w6 h1 h2 h3 h4
      have A7 := Aside0.mk h1
      have V7 := Aside0.mk (St.other V6.out h2 h3 HG.out)
      clear h1 h2 h3 h4
      refine hK.out _ _ ?_
      clear hK K
      refine done_ (by kernel_rfl) ?_

      go_wp2
      have V8 := Aside0.mk V7.out.drew
      have A8 := Aside0.mk (blk_drew A7.out)

      refine start_ (n := 5) (S := fun w' => St w [⟨44, .u64, num a⟩, ⟨44, .u64, z4⟩] w' ∧ w'.heap[g]? = some (.cells (arr .u64 (num z)) 44 (0, 0))) (ds := []) #[false, false, false, false, false] (by kernel_rfl) rfl rfl ⟨V8.out, A8.out⟩ (fun hHeld => ?_)
      refine take_ (i := 0) (N := some 16) (v := ?_) (a' := ?_) #[true, false, false, false, false] rfl rfl (by kernel_rfl) (fun _ _ _ h => h) (Or.inl ⟨by rfl, ?_⟩) hHeld ?_ ?_
      rotate_left
      · rintro w' ⟨s0, s1⟩
        refine (run_ld 44 (.tmp 4) (by rfl) g (by rfl) s1 Try.underlying44 (m := 4) (by kernel_rfl) (num_length _)).trans ?_; with_reducible rfl
      rotate_left
      · simp only [Act.put, OpenRow.s1, OpenRow.s2, OpenRow.s3, i64_w, i32_w]; rfl
      refine take_ (i := 1) (N := some 17) (v := ?_) (a' := ?_) #[true, true, false, false, false] rfl rfl (by kernel_rfl) (fun _ _ _ h => h) (Or.inl ⟨by rfl, ?_⟩) hHeld ?_ ?_
      rotate_left
      · rintro w' ⟨s0, s1⟩
        refine (run_ld 44 (.tmp 4) (by rfl) g (by rfl) s1 Try.underlying44 (m := 4) (by kernel_rfl) (num_length _)).trans ?_; with_reducible rfl
      rotate_left
      · simp only [Act.put, OpenRow.s1, OpenRow.s2, OpenRow.s3, i64_w, i32_w]; rfl
      refine take_ (i := 3) (N := some 19) (v := ?_) (a' := ?_) #[true, true, false, true, false] rfl rfl (by kernel_rfl) (fun _ _ _ h => h) (Or.inl ⟨by rfl, ?_⟩) hHeld ?_ ?_
      rotate_left
      · rintro w' ⟨s0, s1⟩
        refine (run_ld 44 (.tmp 1) (by rfl) w.heap.size (by rfl) (s0.blk 0 rfl) Try.underlying44 (m := 4) (by kernel_rfl) (num_length _)).trans ?_; with_reducible rfl
      rotate_left
      · simp only [Act.put, OpenRow.s1, OpenRow.s2, OpenRow.s3, i64_w, i32_w]; rfl
      refine one_ (i := 2) (N := some 18) #[true, true, true, true, false] rfl rfl (by kernel_rfl) (by decide) (fun K hK => ?_)
      refine goes_ Try.func65 (by kernel_rfl) rfl #[.agg (arr .u64 (num z)), .agg (arr .u64 (num z))] (by rfl) rfl rfl (by simp only [List.map_toArray, List.map_cons, List.map_nil] <;> rfl) ?_
      with_reducible refine (HMz.out _).mono ?_
      rintro e w3 ⟨rfl, hb⟩
      refine ⟨_, rfl, ?_⟩
      have V9 := Aside0.mk (V8.out.step hb)
      have A9 := Aside0.mk (blk_below A8.out hb)
      clear hb
      refine hK.out _ _ ⟨V9.out, A9.out⟩ (fun hHeld => ?_)
      clear hK K
      refine norm_ (a' := ?_) ?_ ?_
      rotate_left
      · show Act.put _ (some 18) _ = _
        simp only [Act.put, OpenRow.s1, OpenRow.s2, OpenRow.s3, i64_w, i32_w]
        rfl
      refine pure_ (i := 4) (N := some 20) (v := ?_) (a' := ?_) #[true, true, true, true, true] rfl rfl (by kernel_rfl) (fun _ _ _ h => h) (Or.inl ⟨by rfl, ?_⟩) ?_ ?_
      rotate_left
      · intro w'; go_simp; with_reducible rfl
      rotate_left
      · simp only [Act.put, OpenRow.s1, OpenRow.s2, OpenRow.s3, i64_w, i32_w]; rfl
      refine done_ (by kernel_rfl) ?_

      go_wp2_with (first
        | (refine st_arr rfl 44 (.tmp 2) (.tmp 21) rfl (w.heap.size + 1) (xs := [0, 0, 0, 0]) rfl rfl (V9.out.blk 1 rfl) (m := 4) (by kernel_rfl) rfl rfl ?_; intro w' h1 h2 h4 h3; have H1 := Aside0.mk h1; have V10 := Aside0.mk (V9.out.row 1 rfl h1 h2 h3); clear h1 h2 h3 h4))
      exact bodyPost_ret (results_ct Try.results73 _ _ (w.heap.size + 1) 44 _ (0, 0) _ rfl H1.out Try.underlying44 rfl (by kernel_rfl)) rfl ⟨rfl, V10.out.below⟩


/-! ### impl_pointAt: function 90 -/
theorem build_pt (xs ys zs ts : List Int) (hx : xs.length = 4) (hy : ys.length = 4) (hz : zs.length = 4) (ht : ts.length = 4) (W : World) :
    (Instr.build 52 #[(0, .agg (arr .u64 xs)), (1, .agg (arr .u64 ys)), (2, .agg (arr .u64 zs)), (3, .agg (arr .u64 ts))]).run Try.prog W = .ok (.agg (arr .u64 (xs ++ (ys ++ (zs ++ ts))))) W := by
  match xs, ys, zs, ts, hx, hy, hz, ht with
  | [a0, a1, a2, a3], [b0, b1, b2, b3], [c0, c1, c2, c3], [d0, d1, d2, d3], _, _, _, _ =>
    simp only [arr, List.map_cons, List.map_nil, List.cons_append, List.nil_append]
    go_simp
set_option maxHeartbeats 1000000 in
set_option maxRecDepth 100000 in
theorem impl_pointAt.calls (x y : Nat) (w : World) (hx : x < BB) (hy : y < BB) :
    Calls Try.prog 90 #[.agg (arr .u64 (num x)), .agg (arr .u64 (num y))] w fun e w' => e = .returned (.agg (arr .u64 (ptL x y 1 (x * y % PP)))) ∧ Below w.heap.size w w' := by
  have HT := Aside0.mk (fun W => impl_element_times.calls x y W hx hy)
  have hbd := fun W => build_pt (num x) (num y) (num 1) (num (x * y % PP)) (num_length _) (num_length _) (num_length _) (num_length _) W
  have n1 : num 1 = [1, 0, 0, 0] := by decide
  have HPL := Aside0.mk (ptL_length x y 1 (x * y % PP))
  rw [n1] at hbd
  unfold ptL at HPL ⊢
  rw [n1] at HPL ⊢
  obtain ⟨ps, hps⟩ : ∃ ps, ps = num x ++ (num y ++ ([1, 0, 0, 0] ++ num (x * y % PP))) := ⟨_, rfl⟩
  rw [← hps] at hbd HPL ⊢
  have hbd2 : ∀ W, (Instr.build 52 #[(0, .agg (arr .u64 (num x))), (1, .agg (arr .u64 (num y))), (2, .agg #[.int .u64 1, .int .u64 0, .int .u64 0, .int .u64 0]), (3, .agg (arr .u64 (num (x * y % PP))))]).run Try.prog W = .ok (.agg (arr .u64 ps)) W := hbd
  clear hx hy hps hbd n1
  generalize x * y % PP = r at *
  have S := Aside0.mk ((((St.start w).push rfl 44 .u64 (num x)).push (World.size_alloc ..) 44 .u64 (num y)).push (by rw [World.size_alloc, World.size_alloc]; rfl) 52 .u64 z16)
  go_enter Try.func90, Try.ntmps90
  go_wp2
  refine abs_world (bs := [⟨44, .u64, num x⟩, ⟨44, .u64, num y⟩, ⟨52, .u64, z16⟩]) S.out ?_
  clear S
  intro W0 hS
  have T := Aside0.mk hS.drew
  clear hS
  refine start_ (n := 8) (S := fun w' => St w [⟨44, .u64, num x⟩, ⟨44, .u64, num y⟩, ⟨52, .u64, z16⟩] w') (ds := [7]) #[false, false, false, false, false, false, false, false] (by kernel_rfl) rfl rfl (T.out) (fun hHeld => ?_)
  refine pure_ (i := 2) (N := some 7) (v := ?_) (a' := ?_) #[false, false, true, false, false, false, false, false] rfl rfl (by kernel_rfl) (fun _ _ _ h => h) (Or.inl ⟨by rfl, ?_⟩) ?_ ?_
  rotate_left
  · intro w'; go_simp; with_reducible rfl
  rotate_left
  · simp only [Act.put, OpenRow.s1, OpenRow.s2, OpenRow.s3, i64_w, i32_w]; rfl
  refine take_ (i := 0) (N := some 5) (v := ?_) (a' := ?_) #[true, false, true, false, false, false, false, false] rfl rfl (by kernel_rfl) (fun _ _ _ h => h) (Or.inl ⟨by rfl, ?_⟩) hHeld ?_ ?_
  rotate_left
  · intro w' s0
    refine (run_ld 44 (.tmp 2) (by rfl) w.heap.size (by rfl) (s0.blk 0 rfl) Try.underlying44 (m := 4) (by kernel_rfl) (num_length _)).trans ?_; with_reducible rfl
  rotate_left
  · simp only [Act.put, OpenRow.s1, OpenRow.s2, OpenRow.s3, i64_w, i32_w]; rfl
  refine take_ (i := 1) (N := some 6) (v := ?_) (a' := ?_) #[true, true, true, false, false, false, false, false] rfl rfl (by kernel_rfl) (fun _ _ _ h => h) (Or.inl ⟨by rfl, ?_⟩) hHeld ?_ ?_
  rotate_left
  · intro w' s0
    refine (run_ld 44 (.tmp 3) (by rfl) (w.heap.size + 1) (by rfl) (s0.blk 1 rfl) Try.underlying44 (m := 4) (by kernel_rfl) (num_length _)).trans ?_; with_reducible rfl
  rotate_left
  · simp only [Act.put, OpenRow.s1, OpenRow.s2, OpenRow.s3, i64_w, i32_w]; rfl
  refine take_ (i := 3) (N := some 8) (v := ?_) (a' := ?_) #[true, true, true, true, false, false, false, false] rfl rfl (by kernel_rfl) (fun _ _ _ h => h) (Or.inl ⟨by rfl, ?_⟩) hHeld ?_ ?_
  rotate_left
  · intro w' s0
    refine (run_ld 44 (.tmp 2) (by rfl) w.heap.size (by rfl) (s0.blk 0 rfl) Try.underlying44 (m := 4) (by kernel_rfl) (num_length _)).trans ?_; with_reducible rfl
  rotate_left
  · simp only [Act.put, OpenRow.s1, OpenRow.s2, OpenRow.s3, i64_w, i32_w]; rfl
  refine take_ (i := 4) (N := some 9) (v := ?_) (a' := ?_) #[true, true, true, true, true, false, false, false] rfl rfl (by kernel_rfl) (fun _ _ _ h => h) (Or.inl ⟨by rfl, ?_⟩) hHeld ?_ ?_
  rotate_left
  · intro w' s0
    refine (run_ld 44 (.tmp 3) (by rfl) (w.heap.size + 1) (by rfl) (s0.blk 1 rfl) Try.underlying44 (m := 4) (by kernel_rfl) (num_length _)).trans ?_; with_reducible rfl
  rotate_left
  · simp only [Act.put, OpenRow.s1, OpenRow.s2, OpenRow.s3, i64_w, i32_w]; rfl
  refine one_ (i := 5) (N := some 10) #[true, true, true, true, true, true, false, false] rfl rfl (by kernel_rfl) (by decide) (fun K hK => ?_)
  refine goes_ Try.func65 (by kernel_rfl) rfl #[.agg (arr .u64 (num x)), .agg (arr .u64 (num y))] (by rfl) rfl rfl (by simp only [List.map_toArray, List.map_cons, List.map_nil] <;> rfl) ?_
  with_reducible refine (HT.out _).mono ?_
  rintro e w3 ⟨rfl, hb⟩
  refine ⟨_, rfl, ?_⟩
  have T1 := Aside0.mk (T.out.step hb)
  clear hb
  refine hK.out _ _ (T1.out) (fun hHeld => ?_)
  clear hK K
  refine norm_ (a' := ?_) ?_ ?_
  rotate_left
  · show Act.put _ (some 10) _ = _
    simp only [Act.put, OpenRow.s1, OpenRow.s2, OpenRow.s3, i64_w, i32_w]
    rfl
  refine pure_ (i := 6) (N := some 11) (v := ?_) (a' := ?_) #[true, true, true, true, true, true, true, false] rfl rfl (by kernel_rfl) (fun _ _ _ h => h) (Or.inl ⟨by rfl, ?_⟩) ?_ ?_
  rotate_left
  · intro w'
    refine (run_bd rfl _ (by simp only [List.map_toArray, List.map_cons, List.map_nil] <;> rfl) (hbd2 _)).trans ?_; with_reducible rfl
  rotate_left
  · simp only [Act.put, OpenRow.s1, OpenRow.s2, OpenRow.s3, i64_w, i32_w]; rfl
  refine last_ (i := 7) (N := none) #[true, true, true, true, true, true, true, true] rfl rfl (by kernel_rfl) (by decide) (fun K hK => ?_)
  refine st_step (by rfl) rfl 52 (.tmp 4) (.tmp 11) rfl (w.heap.size + 2) (xs := ps) rfl rfl (T1.out.blk 2 rfl) (m := 16) (by kernel_rfl) HPL.out (by rw [HPL.out]; rfl) ?_
  intro w6 h1 h2 h3 h4
  have H1 := Aside0.mk h1
  have T2 := Aside0.mk (T1.out.row 2 rfl h1 h2 h3)
  clear h1 h2 h3 h4
  refine hK.out _ _ ?_
  clear hK K
  refine done_ (by kernel_rfl) ?_

  go_wp2
  exact bodyPost_ret (results_cell_row Try.results90 _ _ (w.heap.size + 2) 52 _ (0, 0) _ rfl H1.out Try.underlying52 rfl (by rw [arr_size, HPL.out]; kernel_rfl)) rfl ⟨rfl, T2.out.below⟩


/-! ### slices_Clone_byte_byte: function 101 -/
def slices_Clone_byte_byte.f (l0 : List (Int)) : Option (List (Int)) := if l0.length < 140737488355328 then some l0 else none
set_option maxHeartbeats 4000000 in
set_option maxRecDepth 100000 in
theorem slices_Clone_byte_byte.calls (A0 : Option Addr) (c0 : Nat) (l0 : List (Int)) (r : List (Int)) (w : World) (hr0 : Kd.C (Kd.int .u8) w A0 l0.length l0) (hc0 : l0.length ≤ c0) (h : slices_Clone_byte_byte.f l0 = some r) :
    Calls Try.prog 101 #[.slice A0 l0.length c0] w fun e w' => ∃ v0_ : Value, e = .returned (v0_) ∧ Kd.R (Kd.int .u8) 5 w' w.heap.size (fun _ => True) v0_ r ∧ Below w.heap.size w w' := by
  unfold slices_Clone_byte_byte.f at h
  have hs : l0.length < 140737488355328 := Decidable.byContradiction fun hs => by rw [if_neg hs] at h; cases h
  rw [if_pos hs] at h
  obtain rfl := Option.some.inj h
  clear h
  have q22 : ∀ (W : World) (a : Option Addr) (n c n' c' : Nat), (binOp .eql 22 (.slice a n c) (.slice none n' c')).run Try.prog W = .ok (.bool a.isNone) W := fun W a n c n' c' => Lib.run_eql_slice_nil W _ _ a n c n' c' Try.underlying22
  have infoE : (Try.prog.info? 5).map (fun i => (i.zero, i.size, i.bytes)) = some (some (.int .u8 0), 1, 1) := by kernel_rfl
  have INFO := Aside0.mk infoE
  clear infoE
  have HR0 := Aside0.mk hr0
  have HB := Aside0.mk (Below.refl w.heap.size w)
  have LM := Aside0.mk hs
  cases A0 with
  | none =>
    have hz : l0 = [] := by
      have h2 := hr0.2.2
      cases l0 with
      | nil => rfl
      | cons x xs => obtain ⟨ad, e, _⟩ := h2 (by simp); cases e
    subst hz
    clear hr0 hc0 hs
    go_enter Try.func101, Try.ntmps101
    go_wp2
    go_ret
    exact ⟨_, rfl, Kd.R_nil _ _ _ _ _, HB.out⟩
  | some ad =>
    have Ny := Aside0.mk (show l0 = [] ++ l0 from rfl)
    clear hr0 hs
    go_enter Try.func101, Try.ntmps101
    go_wp2_with (first
      | ((with_reducible refine gate_dst (N := 5) rfl ?_); refine Kd.R_lit (Kd.int .u8) _ 5 ?hg (N := 5) ?hd (xs := []) (inner := []) (ok := fun _ => True) (okp := fun _ => True) ?hr ?hp (fun _ hk => hk) trivial (Below.refl _ _) (Nat.le_refl _) (by simp) ?_; (case hd => rfl); (case hg => rfl); (case hr => first | (go_simp; done) | (go_simp; rfl)); (case hp => exact Reps.none _ _); intro v126 w5 ho6 hb hg_ hnew_; clear hg_ hnew_; have n0_ := Aside0.mk (Kd.R_lower ho6 (below_size HB.out)); have n1_ := Aside0.mk (below_step HB.out hb); clear HB; have HO127 := n0_; have HB := n1_; clear n0_ n1_; clear hb ho6)
      | ((with_reducible refine gate_builtin (b := .append) (xs := #[.tmp 5, .tmp 6]) rfl ?_); at_builtin; refine Kd.R_append_rows (Kd.int .u8) (w0 := w) w.heap.size rfl (.tmp 5) (.tmp 6) 22 5 (.int .u8 0) 1 rfl Try.underlying22 INFO.out rfl (by decide) (by decide) v126 [] l0 _ _ _ (fun _ => True) (fun _ => False) rfl rfl ?aO ?aR (fun _ _ h => h) (fun _ h => h.elim) ?aF ?aB ?aS ?aL ?_; (case aR => exact (Kd.C_below HR0.out HB.out)); (case aB => exact HB.out); (case aF => exact (fun _ _ => trivial)); (case aO => exact HO127.out); (case aS => exact (below_size HB.out)); (case aL => have := LM.out; simp only [List.length_nil, Nat.zero_add]; omega); intro v129 w7 ho hb hg hat; rw [← Ny.out] at ho; have n0_ := Aside0.mk (hb); have n1_ := Aside0.mk (ho); clear HB; clear HO127; have HB := n0_; have HO130 := n1_; clear n0_ n1_; clear ho hb hg hat))
    go_ret
    exact ⟨_, rfl, Kd.R_mono HO130.out (fun _ hk => trivial), HB.out⟩


/-! ### impl_curve: function 102 -/
def curveN : Nat := 37095705934669439343138083508754565189542113879843219016388785533085940283555
theorem num_curve : [8496970652267935907, 31536524315187371, 10144147576115030168, 5909686906226998899] = num curveN := by decide
set_option maxHeartbeats 1000000 in
set_option maxRecDepth 100000 in
theorem impl_curve.calls (w : World) :
    Calls Try.prog 102 #[] w fun e w' => e = .returned (.agg (arr .u64 (num curveN))) ∧ Below w.heap.size w w' := by
  rw [← num_curve]
  go_enter Try.func102, Try.ntmps102
  go_wp2
  exact bodyPost_ret (results_cell_row Try.results102 _ _ w.heap.size 44 _ (0, 0) _ rfl (blk_new w _) Try.underlying44 rfl (by kernel_rfl)) rfl ⟨by rfl, below_alloc (Below.refl _ _) _⟩


end Go.Proofs.Ytijeackkgcnbgaa.XO

namespace Go.Proofs.Ytijeackkgcnbgaa.XO
open Go.Proofs.Ytijeackkgcnbgaa.Limb Go.Proofs.Ytijeackkgcnbgaa.Arr Go.Proofs.Ytijeackkgcnbgaa.FldA Go.Proofs.Ytijeackkgcnbgaa.FldB Go.Proofs.Ytijeackkgcnbgaa.FldC Go.Proofs.Ytijeackkgcnbgaa.FldS Go.Proofs.Ytijeackkgcnbgaa.FldP Go.Proofs.Ytijeackkgcnbgaa.FldW Go.Proofs.Ytijeackkgcnbgaa.FldM Go.Proofs.Ytijeackkgcnbgaa.FldT Go.Proofs.Ytijeackkgcnbgaa.FldRoot Go.Proofs.Ytijeackkgcnbgaa.FldRoot2 Go.Proofs.Ytijeackkgcnbgaa.FldPt Go.Proofs.Ytijeackkgcnbgaa.St Go.Proofs.Ytijeackkgcnbgaa.StOps Go.Proofs.Ytijeackkgcnbgaa.StMid Go.Proofs.Ytijeackkgcnbgaa.StEq Go.Proofs.Ytijeackkgcnbgaa.StPt Go.Proofs.Ytijeackkgcnbgaa.StIdx
open Go.RowKit Go.Proofs.YtijeackkgcnbgaaW.PrintWords Go.Proofs.YtijeackkgcnbgaaW.PrintLast Go.Proofs.YtijeackkgcnbgaaW.PrintMore
attribute [local go_sem] max2_int min2_int max_two min_two max_three min_three max_four min_four   -- for this text's walks alone
set_option linter.unusedVariables false
set_option linter.unusedSimpArgs false

/-! ### impl_pointOf: function 75 -/
set_option maxHeartbeats 4000000 in
set_option maxRecDepth 100000 in
theorem impl_pointOf.calls (A0 : Option Addr) (c0 : Nat) (l : List Int) (w : World) (hr0 : Kd.C (Kd.int .u8) w A0 l.length l) (hc0 : l.length ≤ c0) (ho : okB l = true) :
    Calls Try.prog 75 #[.slice A0 l.length c0] w fun e w' => e = .returned (.tuple #[.agg (arr .u64 (ptV l)), .bool (okP l)]) ∧ Below w.heap.size w w' := by
  have S := Aside0.mk ((St.start w).push rfl 52 .u64 zL)
  by_cases hl : l.length = 32
  · have hPB : PP < BB := by decide
    have HB0 := Aside0.mk (Kd.C_below hr0 (below_alloc (Below.refl w.heap.size w) (.cells (arr .u64 zL) 52)))
    have HCl := Aside0.mk (fun W (hW : Kd.C (Kd.int .u8) W A0 l.length l) => (slices_Clone_byte_byte.calls A0 c0 l l W hW hc0 (by unfold slices_Clone_byte_byte.f; rw [if_pos (by omega)])))
    rw [hl] at HCl HB0
    have hll : (l.length : Int) = 32 := by omega
    have HLW := Aside0.mk hl
    have OKL := Aside0.mk (lowB_ok (okB_ok l ho))
    have hbb := okB_ok l ho (l.getD 31 0) (by rw [List.getD_eq_getElem?_getD, List.getElem?_eq_getElem (by omega)]; exact List.getElem_mem _)
    have HIE := Aside0.mk (fun g c W (hW : Kd.C (Kd.int .u8) W (some ⟨g, 0, none⟩) (lowB l).length (lowB l)) (hc : (lowB l).length ≤ c) => impl_isElement.calls (some ⟨g, 0, none⟩) c (lowB l) (isEl (lowB l)) W hW hc (by
      unfold impl_isElement.f
      rw [if_pos (by rw [okB, List.all_eq_true]; intro x hx; have := OKL.out x hx; rw [decide_eq_true this.1, decide_eq_true (show x < 256 from this.2)]; rfl)]))
    have HEO := Aside0.mk (fun g c W (hW : Kd.C (Kd.int .u8) W (some ⟨g, 0, none⟩) (lowB l).length (lowB l)) => impl_elementOf.calls (some ⟨g, 0, none⟩) c (lowB l) W hW (by rw [lowB_length]; omega) OKL.out)
    have HLS := Aside0.mk (show l.set 31 (l.getD 31 0 % 128) = lowB l from rfl)
    have sgb : decide (128 ≤ l.getD 31 0) = sgB l := rfl
    rw [lowB_length, hl] at HIE HEO
    obtain ⟨b, hb_⟩ : ∃ b, b = l.getD 31 0 := ⟨_, rfl⟩
    obtain ⟨lo, hlo⟩ : ∃ lo, lo = b % 128 := ⟨_, rfl⟩
    have HBD := Aside0.mk hb_
    rw [← hb_] at sgb hbb
    rw [← hb_, ← hlo] at HLS
    have han : bits .andNot .u8 b 128 = lo := by rw [hlo]; exact and_not b hbb.1 hbb.2
    have b0 := hbb.1
    have b1 : b < 256 := hbb.2
    have lo0 : 0 ≤ lo := by omega
    have lo1 : lo < 128 := by omega
    have HLEN := Aside0.mk hl
    clear hb_ hlo hbb
    by_cases he : isEl (lowB l) = true
    · have hy0 : bval (lowB l) < PP := by
        have := he
        unfold isEl at this
        rw [Bool.and_eq_true, decide_eq_true_iff] at this
        exact of_decide_eq_true this.2
      have hYB : pYv l < BB := Nat.lt_trans hy0 hPB
      have hPY : bval (lowB l) = pYv l := rfl
      rw [he] at HIE
      rw [hPY] at HEO
      have HYY := Aside0.mk (fun W => impl_element_times.calls (pYv l) (pYv l) W hYB hYB)
      have HC := Aside0.mk (fun W => (show Calls Try.prog 102 #[] W fun e w' => e = .returned (.agg (arr .u64 (num cuN))) ∧ Below W.heap.size W w' from impl_curve.calls W))
      have HM := Aside0.mk (fun W => impl_element_times.calls cuN (pQ (pYv l)) W (by decide) (Nat.lt_trans (pQ_lt _) hPB))
      have HP := Aside0.mk (fun W => (show Calls Try.prog 51 #[.agg (arr .u64 (num (pM (pYv l)))), .agg #[.int .u64 1, .int .u64 0, .int .u64 0, .int .u64 0]] W fun e w' => e = .returned (.agg (arr .u64 (num (pD (pYv l))))) ∧ Below W.heap.size W w' from by
        have h := impl_element_plus.calls (pM (pYv l)) 1 W (pM_lt _) (by decide)
        rw [show num 1 = [1, 0, 0, 0] from by decide] at h
        exact h))
      have HN := Aside0.mk (fun W => (show Calls Try.prog 54 #[.agg (arr .u64 (num (pQ (pYv l)))), .agg #[.int .u64 1, .int .u64 0, .int .u64 0, .int .u64 0]] W fun e w' => e = .returned (.agg (arr .u64 (num (pN (pYv l))))) ∧ Below W.heap.size W w' from by
        have h := impl_element_minus.calls (pQ (pYv l)) 1 W (pQ_lt _) (by decide)
        rw [show num 1 = [1, 0, 0, 0] from by decide] at h
        exact h))
      have HI := Aside0.mk (fun W => impl_element_inverse.calls (pD (pYv l)) W (Nat.lt_trans (pD_lt _) hPB))
      have HT := Aside0.mk (fun W => impl_element_times.calls (pN (pYv l)) (pI (pYv l)) W (Nat.lt_trans (pN_lt _) hPB) (Nat.lt_trans (pI_lt _) hPB))
      have HR := Aside0.mk (fun W => impl_element_root.calls (pXX (pYv l)) W (pXX_lt _))
      have HZ := Aside0.mk (fun W => impl_element_isZero.calls (rtX (pYv l)) W (Nat.lt_trans (rtX_lt _) hPB))
      have HNG := Aside0.mk (fun W => impl_element_negative.calls (rtX (pYv l)) W (rtX_lt _))
      have HA := Aside0.mk (fun x (hx : x < PP) W => impl_pointAt.calls x (pYv l) W (Nat.lt_trans hx hPB) hYB)
      have HX0 := Aside0.mk (rtX_lt (pYv l))
      rw [show pYv l * pYv l % PP = pQ (pYv l) from rfl] at HYY
      rw [show cuN * pQ (pYv l) % PP = pM (pYv l) from rfl] at HM
      rw [show pD (pYv l) ^ (PP - 2) % PP = pI (pYv l) from rfl] at HI
      rw [show pN (pYv l) * pI (pYv l) % PP = pXX (pYv l) from rfl] at HT
      rw [show (if rtOk (pXX (pYv l)) = true then rtV (pXX (pYv l)) else 0) = rtX (pYv l) from rfl] at HR
      have F1 := Aside0.mk (fun h => okP_rt (l := l) h)
      have F2 := Aside0.mk (fun h h2 => okP_zero (l := l) h h2)
      have F3 := Aside0.mk (fun h h2 => okP_true (l := l) he h h2)
      have F4 := Aside0.mk (fun (h : okP l = true) x hx => ptV_yes (l := l) h x hx)
      have F5 := Aside0.mk (fun h => pXv_sg (l := l) h)
      have F6 := Aside0.mk (fun h => pXv_no (l := l) h)
      have F7 := Aside0.mk (fun h => ptV_no (l := l) h)
      clear he hy0 hPY hYB hPB hc0 hr0 ho
      generalize rtX (pYv l) = x0 at *
      generalize rtOk (pXX (pYv l)) = ok at *
      generalize pXX (pYv l) = xx at *
      generalize pI (pYv l) = ii at *
      generalize pN (pYv l) = nn at *
      generalize pD (pYv l) = dd at *
      generalize pM (pYv l) = m at *
      generalize pQ (pYv l) = q at *
      generalize pYv l = y at *
      generalize sgB l = sg at *
      go_enter Try.func75, Try.ntmps75
      go_wp2_with (first
        | ((refine (HCl.out _ HB0.out).mono ?_); rintro e w1 ⟨v, rfl, hR, hb⟩; obtain ⟨go, co, eo, gb, gl, _, HGc⟩ := Kd.R_form hR (by omega); rw [HLW.out] at eo; subst eo; have GB := Aside0.mk gb; rw [World.size_alloc] at GB; have S1 := Aside0.mk (S.out.step hb); have hx0 : w1.cell? ⟨go, 31, none⟩ = some (.int .u8 b) := (by rw [HBD.out]; exact (Kd.R_celln 0 hR (31 : Int) (by omega) (by omega)).1); have hf0 : w1.frozen? ⟨go, 31, none⟩ = false := (Kd.R_celln 0 hR (31 : Int) (by omega) (by omega)).2; have HP31 : Aside0 ((Kd.int .u8).R 5 (w1.setCell ⟨go, 31, none⟩ (.int .u8 lo)) (w.alloc (.cells (arr .u64 zL) 52)).heap.size (fun _ => True) (.slice (some ⟨go, 0, none⟩) 32 co) (lowB l)) := ⟨(by rw [← HLS.out]; exact (Kd.R_putg hR (31 : Int) lo).1)⟩; have HC3 := Aside0.mk (Kd.R_reads' HP31.out).2.2; have HCO := Aside0.mk (Kd.R_reads' HP31.out).2.1; rw [lowB_length, HLW.out] at HC3; clear hb hR gb gl HGc)
        | ((with_reducible refine (HIE.out _ _ _ HC3.out HCO.out).mono ?_); rintro e w2 ⟨rfl, hb⟩; have S2 := Aside0.mk ((St_far S1.out go 31 _ GB.out).step hb); have HC4 := Aside0.mk (Kd.C_below HC3.out hb); clear hb)
        | ((with_reducible refine (HEO.out _ _ _ HC4.out).mono ?_); rintro e w3 ⟨rfl, hb⟩; have S3 := Aside0.mk (S2.out.step hb); clear hb)
        | (refine st_arr rfl 44 (.tmp 6) (.tmp 31) rfl w3.heap.size (xs := num y) rfl rfl (blk_new w3 (.cells (arr .u64 z4) 44)) (m := 4) (by kernel_rfl) (num_length _) (by rw [num_length]; rfl) ?_; intro w4 h1 h2 h4 h3; have A4 := Aside0.mk h1; have S4 := Aside0.mk (St.other (S3.out.alloc (.cells (arr .u64 z4) 44)) h2 h3 S3.out.size); clear h1 h2 h3 h4)
        | ((with_reducible refine gate_dst (N := 32) rfl ?_); refine ld_arr rfl 44 (.tmp 6) rfl w3.heap.size rfl A4.out Try.underlying44 (m := 4) (by kernel_rfl) (num_length _) ?_)
        | ((with_reducible refine gate_dst (N := 33) rfl ?_); refine ld_arr rfl 44 (.tmp 6) rfl w3.heap.size rfl A4.out Try.underlying44 (m := 4) (by kernel_rfl) (num_length _) ?_)
        | ((with_reducible refine (HYY.out _).mono ?_); rintro e w5 ⟨rfl, hb⟩; have S5 := Aside0.mk (S4.out.step hb); have A5 := Aside0.mk (blk_below A4.out hb); clear hb)
        | (refine st_arr rfl 44 (.tmp 7) (.tmp 34) rfl w5.heap.size (xs := num q) rfl rfl (blk_new w5 (.cells (arr .u64 z4) 44)) (m := 4) (by kernel_rfl) (num_length _) (by rw [num_length]; rfl) ?_; intro w6 h1 h2 h4 h3; have B6 := Aside0.mk h1; have S6 := Aside0.mk (St.other (S5.out.alloc (.cells (arr .u64 z4) 44)) h2 h3 S5.out.size); have A6 := Aside0.mk ((h2 _ (ne_of_blk A5.out)).trans (blk_alloc A5.out _)); clear h1 h2 h3 h4))
      have E6 := Aside0.mk S3.out.size
      generalize w3.heap.size = g6 at *
      generalize w5.heap.size = g7 at *
      have U := Aside0.mk S6.out.drew
      have A := Aside0.mk (blk_drew A6.out)
      have B := Aside0.mk (blk_drew B6.out)
      clear S1 S2 S3 S4 S5 S6 A4 A5 A6 B6 HCl HIE HEO HYY HP31 HC3 HC4 HCO GB hx0 hf0
      refine start_ (n := 7) (S := fun w' => St w [⟨52, .u64, zL⟩] w' ∧ w'.heap[g6]? = some (.cells (arr .u64 (num y)) 44 (0, 0)) ∧ w'.heap[g7]? = some (.cells (arr .u64 (num q)) 44 (0, 0))) (ds := []) #[false, false, false, false, false, false, false] (by kernel_rfl) rfl rfl ⟨U.out, A.out, B.out⟩ (fun hHeld => ?_)
      refine pure_ (i := 3) (N := some 38) (v := ?_) (a' := ?_) #[false, false, false, true, false, false, false] rfl rfl (by kernel_rfl) (fun _ _ _ h => h) (Or.inl ⟨by rfl, ?_⟩) ?_ ?_
      rotate_left
      · intro w'; go_simp; with_reducible rfl
      rotate_left
      · simp only [Act.put, OpenRow.s1, OpenRow.s2, OpenRow.s3, i64_w, i32_w]; rfl
      refine take_ (i := 1) (N := some 36) (v := ?_) (a' := ?_) #[false, true, false, true, false, false, false] rfl rfl (by kernel_rfl) (fun _ _ _ h => h) (Or.inl ⟨by rfl, ?_⟩) hHeld ?_ ?_
      rotate_left
      · rintro w' ⟨s0, s1, s2⟩
        refine (run_ld 44 (.tmp 7) (by rfl) g7 (by rfl) s2 Try.underlying44 (m := 4) (by kernel_rfl) (num_length _)).trans ?_; with_reducible rfl
      rotate_left
      · simp only [Act.put, OpenRow.s1, OpenRow.s2, OpenRow.s3, i64_w, i32_w]; rfl
      refine join_ (σ := Nat) 1 #[true, true, true, true, true, true, false] (fun s_ => [(35, .agg (arr .u64 (num cuN))), (37, .agg (arr .u64 (num m))), (39, .agg (arr .u64 (num dd))), (8, .pointer (some ⟨s_, 0, none⟩))]) (fun s_ w' => (St w [⟨52, .u64, zL⟩] w') ∧ (w'.heap[g6]? = some (.cells (arr .u64 (num y)) 44 (0, 0))) ∧ (w'.heap[g7]? = some (.cells (arr .u64 (num q)) 44 (0, 0))) ∧ w'.heap[s_]? = some (.cells (arr .u64 z4) 44 (0, 0)) ∧ w.heap.size + 1 ≤ s_ ∧ g6 ≠ s_ ∧ g7 ≠ s_) ?_ ?_
      rotate_left
      · intro hCont
        refine two_ (i := 0) (j := 5) (Ni := some 35) (Nj := some 8) #[true, true, false, true, false, false, false] #[false, true, false, true, false, true, false] rfl rfl rfl rfl (by kernel_rfl) (by decide) (by decide) (fun K hK => ?_) (fun K hK => ?_)
        · skip
          refine goes_ Try.func102 (by kernel_rfl) rfl #[] (by rfl) rfl rfl (by simp only [List.map_toArray, List.map_cons, List.map_nil] <;> rfl) ?_
          with_reducible refine (HC.out _).mono ?_
          rintro e w3 ⟨rfl, hb⟩
          refine ⟨_, rfl, ?_⟩
          have U_0 := Aside0.mk (U.out.step hb)
          have A_0 := Aside0.mk (blk_below A.out hb)
          have B_0 := Aside0.mk (blk_below B.out hb)
          clear hb
          refine hK.out _ _ ⟨U_0.out, A_0.out, B_0.out⟩ (fun hHeld => ?_)
          clear hK K
          refine norm_ (a' := ?_) ?_ ?_
          rotate_left
          · show Act.put _ (some 35) _ = _
            simp only [Act.put, OpenRow.s1, OpenRow.s2, OpenRow.s3, i64_w, i32_w]
            rfl
          refine two_ (i := 2) (j := 5) (Ni := some 37) (Nj := some 8) #[true, true, true, true, false, false, false] #[true, true, false, true, false, true, false] rfl rfl rfl rfl (by kernel_rfl) (by decide) (by decide) (fun K hK => ?_) (fun K hK => ?_)
          · skip
            refine goes_ Try.func65 (by kernel_rfl) rfl #[.agg (arr .u64 (num cuN)), .agg (arr .u64 (num q))] (by rfl) rfl rfl (by simp only [List.map_toArray, List.map_cons, List.map_nil] <;> rfl) ?_
            with_reducible refine (HM.out _).mono ?_
            rintro e w3 ⟨rfl, hb⟩
            refine ⟨_, rfl, ?_⟩
            have U_0_2 := Aside0.mk (U_0.out.step hb)
            have A_0_2 := Aside0.mk (blk_below A_0.out hb)
            have B_0_2 := Aside0.mk (blk_below B_0.out hb)
            clear hb
            refine hK.out _ _ ⟨U_0_2.out, A_0_2.out, B_0_2.out⟩ (fun hHeld => ?_)
            clear hK K
            refine norm_ (a' := ?_) ?_ ?_
            rotate_left
            · show Act.put _ (some 37) _ = _
              simp only [Act.put, OpenRow.s1, OpenRow.s2, OpenRow.s3, i64_w, i32_w]
              rfl
            refine two_ (i := 4) (j := 5) (Ni := some 39) (Nj := some 8) #[true, true, true, true, true, false, false] #[true, true, true, true, false, true, false] rfl rfl rfl rfl (by kernel_rfl) (by decide) (by decide) (fun K hK => ?_) (fun K hK => ?_)
            · skip
              refine goes_ Try.func51 (by kernel_rfl) rfl #[.agg (arr .u64 (num m)), .agg #[.int .u64 1, .int .u64 0, .int .u64 0, .int .u64 0]] (by rfl) rfl rfl (by simp only [List.map_toArray, List.map_cons, List.map_nil] <;> rfl) ?_
              with_reducible refine (HP.out _).mono ?_
              rintro e w3 ⟨rfl, hb⟩
              refine ⟨_, rfl, ?_⟩
              have U_0_2_4 := Aside0.mk (U_0_2.out.step hb)
              have A_0_2_4 := Aside0.mk (blk_below A_0_2.out hb)
              have B_0_2_4 := Aside0.mk (blk_below B_0_2.out hb)
              clear hb
              refine hK.out _ _ ⟨U_0_2_4.out, A_0_2_4.out, B_0_2_4.out⟩ (fun hHeld => ?_)
              clear hK K
              refine norm_ (a' := ?_) ?_ ?_
              rotate_left
              · show Act.put _ (some 39) _ = _
                simp only [Act.put, OpenRow.s1, OpenRow.s2, OpenRow.s3, i64_w, i32_w]
                rfl
              refine one_ (i := 5) (N := some 8) #[true, true, true, true, true, true, false] rfl rfl (by kernel_rfl) (by decide) (fun K hK => ?_)
              refine value_ (w1 := ?_) (v := ?_) (by rfl) rfl ?_ ?_
              rotate_left 2
              · go_simp
                constructor
                · rfl
                · rfl
              have U_0_2_4_5 := Aside0.mk (U_0_2_4.out.alloc (.cells (arr .u64 z4) 44))
              have A_0_2_4_5 := Aside0.mk (blk_alloc A_0_2_4.out (.cells (arr .u64 z4) 44))
              have B_0_2_4_5 := Aside0.mk (blk_alloc B_0_2_4.out (.cells (arr .u64 z4) 44))
              have G5_0_2_4_5 := Aside0.mk (U_0_2_4.out.new (.cells (arr .u64 z4) 44))
              have E5 := Aside0.mk U_0_2_4.out.size
              have M5_0 := Aside0.mk (ne_of_blk A_0_2_4.out)
              have M5_1 := Aside0.mk (ne_of_blk B_0_2_4.out)
              refine hK.out _ _ ⟨U_0_2_4_5.out, A_0_2_4_5.out, B_0_2_4_5.out⟩ (fun hHeld => ?_)
              clear hK K
              refine norm_ (a' := ?_) ?_ ?_
              rotate_left
              · show Act.put _ (some 8) _ = _
                simp only [Act.put, OpenRow.s1, OpenRow.s2, OpenRow.s3, i64_w, i32_w]
                rfl
              exact norm_ (by simp only [putAll, Act.put, List.setIfInBounds_toArray, List.set_cons_zero, List.set_cons_succ] <;> rfl) (hCont _ _ ⟨U_0_2_4_5.out, A_0_2_4_5.out, B_0_2_4_5.out, G5_0_2_4_5.out, E5.out, M5_0.out, M5_1.out⟩)
            · skip
              refine value_ (w1 := ?_) (v := ?_) (by rfl) rfl ?_ ?_
              rotate_left 2
              · go_simp
                constructor
                · rfl
                · rfl
              have U_0_2_5 := Aside0.mk (U_0_2.out.alloc (.cells (arr .u64 z4) 44))
              have A_0_2_5 := Aside0.mk (blk_alloc A_0_2.out (.cells (arr .u64 z4) 44))
              have B_0_2_5 := Aside0.mk (blk_alloc B_0_2.out (.cells (arr .u64 z4) 44))
              have G5_0_2_5 := Aside0.mk (U_0_2.out.new (.cells (arr .u64 z4) 44))
              have E5 := Aside0.mk U_0_2.out.size
              have M5_0 := Aside0.mk (ne_of_blk A_0_2.out)
              have M5_1 := Aside0.mk (ne_of_blk B_0_2.out)
              refine hK.out _ _ ⟨U_0_2_5.out, A_0_2_5.out, B_0_2_5.out⟩ (fun hHeld => ?_)
              clear hK K
              refine norm_ (a' := ?_) ?_ ?_
              rotate_left
              · show Act.put _ (some 8) _ = _
                simp only [Act.put, OpenRow.s1, OpenRow.s2, OpenRow.s3, i64_w, i32_w]
                rfl
              refine one_ (i := 4) (N := some 39) #[true, true, true, true, true, true, false] rfl rfl (by kernel_rfl) (by decide) (fun K hK => ?_)
              refine goes_ Try.func51 (by kernel_rfl) rfl #[.agg (arr .u64 (num m)), .agg #[.int .u64 1, .int .u64 0, .int .u64 0, .int .u64 0]] (by rfl) rfl rfl (by simp only [List.map_toArray, List.map_cons, List.map_nil] <;> rfl) ?_
              with_reducible refine (HP.out _).mono ?_
              rintro e w3 ⟨rfl, hb⟩
              refine ⟨_, rfl, ?_⟩
              have U_0_2_5_4 := Aside0.mk (U_0_2_5.out.step hb)
              have A_0_2_5_4 := Aside0.mk (blk_below A_0_2_5.out hb)
              have B_0_2_5_4 := Aside0.mk (blk_below B_0_2_5.out hb)
              have G5_0_2_5_4 := Aside0.mk (blk_below G5_0_2_5.out hb)
              clear hb
              refine hK.out _ _ ⟨U_0_2_5_4.out, A_0_2_5_4.out, B_0_2_5_4.out⟩ (fun hHeld => ?_)
              clear hK K
              refine norm_ (a' := ?_) ?_ ?_
              rotate_left
              · show Act.put _ (some 39) _ = _
                simp only [Act.put, OpenRow.s1, OpenRow.s2, OpenRow.s3, i64_w, i32_w]
                rfl
              exact norm_ (by simp only [putAll, Act.put, List.setIfInBounds_toArray, List.set_cons_zero, List.set_cons_succ] <;> rfl) (hCont _ _ ⟨U_0_2_5_4.out, A_0_2_5_4.out, B_0_2_5_4.out, G5_0_2_5_4.out, E5.out, M5_0.out, M5_1.out⟩)
          · skip
            refine value_ (w1 := ?_) (v := ?_) (by rfl) rfl ?_ ?_
            rotate_left 2
            · go_simp
              constructor
              · rfl
              · rfl
            have U_0_5 := Aside0.mk (U_0.out.alloc (.cells (arr .u64 z4) 44))
            have A_0_5 := Aside0.mk (blk_alloc A_0.out (.cells (arr .u64 z4) 44))
            have B_0_5 := Aside0.mk (blk_alloc B_0.out (.cells (arr .u64 z4) 44))
            have G5_0_5 := Aside0.mk (U_0.out.new (.cells (arr .u64 z4) 44))
            have E5 := Aside0.mk U_0.out.size
            have M5_0 := Aside0.mk (ne_of_blk A_0.out)
            have M5_1 := Aside0.mk (ne_of_blk B_0.out)
            refine hK.out _ _ ⟨U_0_5.out, A_0_5.out, B_0_5.out⟩ (fun hHeld => ?_)
            clear hK K
            refine norm_ (a' := ?_) ?_ ?_
            rotate_left
            · show Act.put _ (some 8) _ = _
              simp only [Act.put, OpenRow.s1, OpenRow.s2, OpenRow.s3, i64_w, i32_w]
              rfl
            refine one_ (i := 2) (N := some 37) #[true, true, true, true, false, true, false] rfl rfl (by kernel_rfl) (by decide) (fun K hK => ?_)
            refine goes_ Try.func65 (by kernel_rfl) rfl #[.agg (arr .u64 (num cuN)), .agg (arr .u64 (num q))] (by rfl) rfl rfl (by simp only [List.map_toArray, List.map_cons, List.map_nil] <;> rfl) ?_
            with_reducible refine (HM.out _).mono ?_
            rintro e w3 ⟨rfl, hb⟩
            refine ⟨_, rfl, ?_⟩
            have U_0_5_2 := Aside0.mk (U_0_5.out.step hb)
            have A_0_5_2 := Aside0.mk (blk_below A_0_5.out hb)
            have B_0_5_2 := Aside0.mk (blk_below B_0_5.out hb)
            have G5_0_5_2 := Aside0.mk (blk_below G5_0_5.out hb)
            clear hb
            refine hK.out _ _ ⟨U_0_5_2.out, A_0_5_2.out, B_0_5_2.out⟩ (fun hHeld => ?_)
            clear hK K
            refine norm_ (a' := ?_) ?_ ?_
            rotate_left
            · show Act.put _ (some 37) _ = _
              simp only [Act.put, OpenRow.s1, OpenRow.s2, OpenRow.s3, i64_w, i32_w]
              rfl
            refine one_ (i := 4) (N := some 39) #[true, true, true, true, true, true, false] rfl rfl (by kernel_rfl) (by decide) (fun K hK => ?_)
            refine goes_ Try.func51 (by kernel_rfl) rfl #[.agg (arr .u64 (num m)), .agg #[.int .u64 1, .int .u64 0, .int .u64 0, .int .u64 0]] (by rfl) rfl rfl (by simp only [List.map_toArray, List.map_cons, List.map_nil] <;> rfl) ?_
            with_reducible refine (HP.out _).mono ?_
            rintro e w3 ⟨rfl, hb⟩
            refine ⟨_, rfl, ?_⟩
            have U_0_5_2_4 := Aside0.mk (U_0_5_2.out.step hb)
            have A_0_5_2_4 := Aside0.mk (blk_below A_0_5_2.out hb)
            have B_0_5_2_4 := Aside0.mk (blk_below B_0_5_2.out hb)
            have G5_0_5_2_4 := Aside0.mk (blk_below G5_0_5_2.out hb)
            clear hb
            refine hK.out _ _ ⟨U_0_5_2_4.out, A_0_5_2_4.out, B_0_5_2_4.out⟩ (fun hHeld => ?_)
            clear hK K
            refine norm_ (a' := ?_) ?_ ?_
            rotate_left
            · show Act.put _ (some 39) _ = _
              simp only [Act.put, OpenRow.s1, OpenRow.s2, OpenRow.s3, i64_w, i32_w]
              rfl
            exact norm_ (by simp only [putAll, Act.put, List.setIfInBounds_toArray, List.set_cons_zero, List.set_cons_succ] <;> rfl) (hCont _ _ ⟨U_0_5_2_4.out, A_0_5_2_4.out, B_0_5_2_4.out, G5_0_5_2_4.out, E5.out, M5_0.out, M5_1.out⟩)
        · skip
          refine value_ (w1 := ?_) (v := ?_) (by rfl) rfl ?_ ?_
          rotate_left 2
          · go_simp
            constructor
            · rfl
            · rfl
          have U_5 := Aside0.mk (U.out.alloc (.cells (arr .u64 z4) 44))
          have A_5 := Aside0.mk (blk_alloc A.out (.cells (arr .u64 z4) 44))
          have B_5 := Aside0.mk (blk_alloc B.out (.cells (arr .u64 z4) 44))
          have G5_5 := Aside0.mk (U.out.new (.cells (arr .u64 z4) 44))
          have E5 := Aside0.mk U.out.size
          have M5_0 := Aside0.mk (ne_of_blk A.out)
          have M5_1 := Aside0.mk (ne_of_blk B.out)
          refine hK.out _ _ ⟨U_5.out, A_5.out, B_5.out⟩ (fun hHeld => ?_)
          clear hK K
          refine norm_ (a' := ?_) ?_ ?_
          rotate_left
          · show Act.put _ (some 8) _ = _
            simp only [Act.put, OpenRow.s1, OpenRow.s2, OpenRow.s3, i64_w, i32_w]
            rfl
          refine one_ (i := 0) (N := some 35) #[true, true, false, true, false, true, false] rfl rfl (by kernel_rfl) (by decide) (fun K hK => ?_)
          refine goes_ Try.func102 (by kernel_rfl) rfl #[] (by rfl) rfl rfl (by simp only [List.map_toArray, List.map_cons, List.map_nil] <;> rfl) ?_
          with_reducible refine (HC.out _).mono ?_
          rintro e w3 ⟨rfl, hb⟩
          refine ⟨_, rfl, ?_⟩
          have U_5_0 := Aside0.mk (U_5.out.step hb)
          have A_5_0 := Aside0.mk (blk_below A_5.out hb)
          have B_5_0 := Aside0.mk (blk_below B_5.out hb)
          have G5_5_0 := Aside0.mk (blk_below G5_5.out hb)
          clear hb
          refine hK.out _ _ ⟨U_5_0.out, A_5_0.out, B_5_0.out⟩ (fun hHeld => ?_)
          clear hK K
          refine norm_ (a' := ?_) ?_ ?_
          rotate_left
          · show Act.put _ (some 35) _ = _
            simp only [Act.put, OpenRow.s1, OpenRow.s2, OpenRow.s3, i64_w, i32_w]
            rfl
          refine one_ (i := 2) (N := some 37) #[true, true, true, true, false, true, false] rfl rfl (by kernel_rfl) (by decide) (fun K hK => ?_)
          refine goes_ Try.func65 (by kernel_rfl) rfl #[.agg (arr .u64 (num cuN)), .agg (arr .u64 (num q))] (by rfl) rfl rfl (by simp only [List.map_toArray, List.map_cons, List.map_nil] <;> rfl) ?_
          with_reducible refine (HM.out _).mono ?_
          rintro e w3 ⟨rfl, hb⟩
          refine ⟨_, rfl, ?_⟩
          have U_5_0_2 := Aside0.mk (U_5_0.out.step hb)
          have A_5_0_2 := Aside0.mk (blk_below A_5_0.out hb)
          have B_5_0_2 := Aside0.mk (blk_below B_5_0.out hb)
          have G5_5_0_2 := Aside0.mk (blk_below G5_5_0.out hb)
          clear hb
          refine hK.out _ _ ⟨U_5_0_2.out, A_5_0_2.out, B_5_0_2.out⟩ (fun hHeld => ?_)
          clear hK K
          refine norm_ (a' := ?_) ?_ ?_
          rotate_left
          · show Act.put _ (some 37) _ = _
            simp only [Act.put, OpenRow.s1, OpenRow.s2, OpenRow.s3, i64_w, i32_w]
            rfl
          refine one_ (i := 4) (N := some 39) #[true, true, true, true, true, true, false] rfl rfl (by kernel_rfl) (by decide) (fun K hK => ?_)
          refine goes_ Try.func51 (by kernel_rfl) rfl #[.agg (arr .u64 (num m)), .agg #[.int .u64 1, .int .u64 0, .int .u64 0, .int .u64 0]] (by rfl) rfl rfl (by simp only [List.map_toArray, List.map_cons, List.map_nil] <;> rfl) ?_
          with_reducible refine (HP.out _).mono ?_
          rintro e w3 ⟨rfl, hb⟩
          refine ⟨_, rfl, ?_⟩
          have U_5_0_2_4 := Aside0.mk (U_5_0_2.out.step hb)
          have A_5_0_2_4 := Aside0.mk (blk_below A_5_0_2.out hb)
          have B_5_0_2_4 := Aside0.mk (blk_below B_5_0_2.out hb)
          have G5_5_0_2_4 := Aside0.mk (blk_below G5_5_0_2.out hb)
          clear hb
          refine hK.out _ _ ⟨U_5_0_2_4.out, A_5_0_2_4.out, B_5_0_2_4.out⟩ (fun hHeld => ?_)
          clear hK K
          refine norm_ (a' := ?_) ?_ ?_
          rotate_left
          · show Act.put _ (some 39) _ = _
            simp only [Act.put, OpenRow.s1, OpenRow.s2, OpenRow.s3, i64_w, i32_w]
            rfl
          exact norm_ (by simp only [putAll, Act.put, List.setIfInBounds_toArray, List.set_cons_zero, List.set_cons_succ] <;> rfl) (hCont _ _ ⟨U_5_0_2_4.out, A_5_0_2_4.out, B_5_0_2_4.out, G5_5_0_2_4.out, E5.out, M5_0.out, M5_1.out⟩)
      rintro g5_ w9 ⟨hS0, hS1, hS2, hG5, hE5, hM5_0, hM5_1⟩
      have T9 := Aside0.mk hS0
      have Z9_1 := Aside0.mk hS1
      have Z9_2 := Aside0.mk hS2
      have GG5 := Aside0.mk hG5
      have EE5 := Aside0.mk hE5
      have MM5_0 := Aside0.mk hM5_0
      have MM5_1 := Aside0.mk hM5_1
      have hHeld := (And.intro hS0 (And.intro hS1 hS2))
      clear hG5 hE5 hM5_0 hM5_1
      refine norm_ (a' := ?_) ?_ ?_
      rotate_left
      · simp only [putAll, Act.put, List.setIfInBounds_toArray, List.set_cons_zero, List.set_cons_succ]
        rfl
      refine one_ (i := 6) (N := none) #[true, true, true, true, true, true, true] rfl rfl (by kernel_rfl) (by decide) (fun K hK => ?_)
      refine st_step (by rfl) rfl 44 (.tmp 8) (.tmp 39) rfl g5_ rfl rfl GG5.out (m := 4) (by kernel_rfl) (num_length _) (by rw [num_length]; rfl) ?_
      intro w6 h1 h2 h3 h4
      have D := Aside0.mk h1
      have V := Aside0.mk (St.other T9.out h2 h3 EE5.out)
      have A2 := Aside0.mk ((h2 _ MM5_0.out).trans Z9_1.out)
      have B2 := Aside0.mk ((h2 _ MM5_1.out).trans Z9_2.out)
      clear h1 h2 h3 h4
      refine hK.out _ _ ⟨V.out, A2.out, B2.out⟩ (fun hHeld => ?_)
      clear hK K
      refine done_ (by kernel_rfl) ?_
      clear U A B
      have U := Aside0.mk V.out.drew
      have A := Aside0.mk (blk_drew A2.out)
      have B := Aside0.mk (blk_drew B2.out)
      have C := Aside0.mk (blk_drew D.out)
      clear T9 Z9_1 Z9_2 GG5 EE5 MM5_0 MM5_1 V A2 B2 D HC HM HP
      go_wp2
      refine start_ (n := 13) (S := fun w' => St w [⟨52, .u64, zL⟩] w' ∧ w'.heap[g6]? = some (.cells (arr .u64 (num y)) 44 (0, 0)) ∧ w'.heap[g7]? = some (.cells (arr .u64 (num q)) 44 (0, 0)) ∧ w'.heap[g5_]? = some (.cells (arr .u64 (num dd)) 44 (0, 0))) (ds := []) #[false, false, false, false, false, false, false, false, false, false, false, false, false] (by kernel_rfl) rfl rfl ⟨U.out, A.out, B.out, C.out⟩ (fun hHeld => ?_)
      refine pure_ (i := 1) (N := some 42) (v := ?_) (a' := ?_) #[false, true, false, false, false, false, false, false, false, false, false, false, false] rfl rfl (by kernel_rfl) (fun _ _ _ h => h) (Or.inl ⟨by rfl, ?_⟩) ?_ ?_
      rotate_left
      · intro w'; go_simp; with_reducible rfl
      rotate_left
      · simp only [Act.put, OpenRow.s1, OpenRow.s2, OpenRow.s3, i64_w, i32_w]; rfl
      refine take_ (i := 0) (N := some 41) (v := ?_) (a' := ?_) #[true, true, false, false, false, false, false, false, false, false, false, false, false] rfl rfl (by kernel_rfl) (fun _ _ _ h => h) (Or.inl ⟨by rfl, ?_⟩) hHeld ?_ ?_
      rotate_left
      · rintro w' ⟨s0, s1, s2, s3⟩
        refine (run_ld 44 (.tmp 7) (by rfl) g7 (by rfl) s2 Try.underlying44 (m := 4) (by kernel_rfl) (num_length _)).trans ?_; with_reducible rfl
      rotate_left
      · simp only [Act.put, OpenRow.s1, OpenRow.s2, OpenRow.s3, i64_w, i32_w]; rfl
      refine take_ (i := 3) (N := some 44) (v := ?_) (a' := ?_) #[true, true, false, true, false, false, false, false, false, false, false, false, false] rfl rfl (by kernel_rfl) (fun _ _ _ h => h) (Or.inl ⟨by rfl, ?_⟩) hHeld ?_ ?_
      rotate_left
      · rintro w' ⟨s0, s1, s2, s3⟩
        refine (run_ld 44 (.tmp 8) (by rfl) g5_ (by rfl) s3 Try.underlying44 (m := 4) (by kernel_rfl) (num_length _)).trans ?_; with_reducible rfl
      rotate_left
      · simp only [Act.put, OpenRow.s1, OpenRow.s2, OpenRow.s3, i64_w, i32_w]; rfl
      refine join_ (σ := Nat) 2 #[true, true, true, true, true, true, true, true, true, true, true, false, false] (fun s_ => [(43, .agg (arr .u64 (num nn))), (45, .agg (arr .u64 (num ii))), (46, .agg (arr .u64 (num xx))), (47, .tuple #[.agg (arr .u64 (num x0)), .bool ok]), (40, .tuple #[.agg (arr .u64 (num x0)), .bool ok]), (48, .agg (arr .u64 (num x0))), (49, .bool ok), (9, .pointer (some ⟨s_, 0, none⟩))]) (fun s_ w' => (St w [⟨52, .u64, zL⟩] w') ∧ (w'.heap[g6]? = some (.cells (arr .u64 (num y)) 44 (0, 0))) ∧ (w'.heap[g7]? = some (.cells (arr .u64 (num q)) 44 (0, 0))) ∧ (w'.heap[g5_]? = some (.cells (arr .u64 (num dd)) 44 (0, 0))) ∧ w'.heap[s_]? = some (.cells (arr .u64 z4) 44 (0, 0)) ∧ w.heap.size + 1 ≤ s_ ∧ g6 ≠ s_ ∧ g7 ≠ s_ ∧ g5_ ≠ s_) ?_ ?_
      rotate_left
      · intro hCont
        refine two_ (i := 2) (j := 10) (Ni := some 43) (Nj := some 9) #[true, true, true, true, false, false, false, false, false, false, false, false, false] #[true, true, false, true, false, false, false, false, false, false, true, false, false] rfl rfl rfl rfl (by kernel_rfl) (by decide) (by decide) (fun K hK => ?_) (fun K hK => ?_)
        · skip
          refine goes_ Try.func54 (by kernel_rfl) rfl #[.agg (arr .u64 (num q)), .agg #[.int .u64 1, .int .u64 0, .int .u64 0, .int .u64 0]] (by rfl) rfl rfl (by simp only [List.map_toArray, List.map_cons, List.map_nil] <;> rfl) ?_
          with_reducible refine (HN.out _).mono ?_
          rintro e w3 ⟨rfl, hb⟩
          refine ⟨_, rfl, ?_⟩
          have U_2 := Aside0.mk (U.out.step hb)
          have A_2 := Aside0.mk (blk_below A.out hb)
          have B_2 := Aside0.mk (blk_below B.out hb)
          have C_2 := Aside0.mk (blk_below C.out hb)
          clear hb
          refine hK.out _ _ ⟨U_2.out, A_2.out, B_2.out, C_2.out⟩ (fun hHeld => ?_)
          clear hK K
          refine norm_ (a' := ?_) ?_ ?_
          rotate_left
          · show Act.put _ (some 43) _ = _
            simp only [Act.put, OpenRow.s1, OpenRow.s2, OpenRow.s3, i64_w, i32_w]
            rfl
          refine two_ (i := 4) (j := 10) (Ni := some 45) (Nj := some 9) #[true, true, true, true, true, false, false, false, false, false, false, false, false] #[true, true, true, true, false, false, false, false, false, false, true, false, false] rfl rfl rfl rfl (by kernel_rfl) (by decide) (by decide) (fun K hK => ?_) (fun K hK => ?_)
          · skip
            refine goes_ Try.func69 (by kernel_rfl) rfl #[.agg (arr .u64 (num dd))] (by rfl) rfl rfl (by simp only [List.map_toArray, List.map_cons, List.map_nil] <;> rfl) ?_
            with_reducible refine (HI.out _).mono ?_
            rintro e w3 ⟨rfl, hb⟩
            refine ⟨_, rfl, ?_⟩
            have U_2_4 := Aside0.mk (U_2.out.step hb)
            have A_2_4 := Aside0.mk (blk_below A_2.out hb)
            have B_2_4 := Aside0.mk (blk_below B_2.out hb)
            have C_2_4 := Aside0.mk (blk_below C_2.out hb)
            clear hb
            refine hK.out _ _ ⟨U_2_4.out, A_2_4.out, B_2_4.out, C_2_4.out⟩ (fun hHeld => ?_)
            clear hK K
            refine norm_ (a' := ?_) ?_ ?_
            rotate_left
            · show Act.put _ (some 45) _ = _
              simp only [Act.put, OpenRow.s1, OpenRow.s2, OpenRow.s3, i64_w, i32_w]
              rfl
            refine two_ (i := 5) (j := 10) (Ni := some 46) (Nj := some 9) #[true, true, true, true, true, true, false, false, false, false, false, false, false] #[true, true, true, true, true, false, false, false, false, false, true, false, false] rfl rfl rfl rfl (by kernel_rfl) (by decide) (by decide) (fun K hK => ?_) (fun K hK => ?_)
            · skip
              refine goes_ Try.func65 (by kernel_rfl) rfl #[.agg (arr .u64 (num nn)), .agg (arr .u64 (num ii))] (by rfl) rfl rfl (by simp only [List.map_toArray, List.map_cons, List.map_nil] <;> rfl) ?_
              with_reducible refine (HT.out _).mono ?_
              rintro e w3 ⟨rfl, hb⟩
              refine ⟨_, rfl, ?_⟩
              have U_2_4_5 := Aside0.mk (U_2_4.out.step hb)
              have A_2_4_5 := Aside0.mk (blk_below A_2_4.out hb)
              have B_2_4_5 := Aside0.mk (blk_below B_2_4.out hb)
              have C_2_4_5 := Aside0.mk (blk_below C_2_4.out hb)
              clear hb
              refine hK.out _ _ ⟨U_2_4_5.out, A_2_4_5.out, B_2_4_5.out, C_2_4_5.out⟩ (fun hHeld => ?_)
              clear hK K
              refine norm_ (a' := ?_) ?_ ?_
              rotate_left
              · show Act.put _ (some 46) _ = _
                simp only [Act.put, OpenRow.s1, OpenRow.s2, OpenRow.s3, i64_w, i32_w]
                rfl
              refine two_ (i := 6) (j := 10) (Ni := some 47) (Nj := some 9) #[true, true, true, true, true, true, true, false, false, false, false, false, false] #[true, true, true, true, true, true, false, false, false, false, true, false, false] rfl rfl rfl rfl (by kernel_rfl) (by decide) (by decide) (fun K hK => ?_) (fun K hK => ?_)
              · skip
                refine goes_ Try.func73 (by kernel_rfl) rfl #[.agg (arr .u64 (num xx))] (by rfl) rfl rfl (by simp only [List.map_toArray, List.map_cons, List.map_nil] <;> rfl) ?_
                with_reducible refine (HR.out _).mono ?_
                rintro e w3 ⟨rfl, hb⟩
                refine ⟨_, rfl, ?_⟩
                have U_2_4_5_6 := Aside0.mk (U_2_4_5.out.step hb)
                have A_2_4_5_6 := Aside0.mk (blk_below A_2_4_5.out hb)
                have B_2_4_5_6 := Aside0.mk (blk_below B_2_4_5.out hb)
                have C_2_4_5_6 := Aside0.mk (blk_below C_2_4_5.out hb)
                clear hb
                refine hK.out _ _ ⟨U_2_4_5_6.out, A_2_4_5_6.out, B_2_4_5_6.out, C_2_4_5_6.out⟩ (fun hHeld => ?_)
                clear hK K
                refine norm_ (a' := ?_) ?_ ?_
                rotate_left
                · show Act.put _ (some 47) _ = _
                  simp only [Act.put, OpenRow.s1, OpenRow.s2, OpenRow.s3, i64_w, i32_w]
                  rfl
                refine pure_ (i := 7) (N := some 40) (v := ?_) (a' := ?_) #[true, true, true, true, true, true, true, true, false, false, false, false, false] rfl rfl (by kernel_rfl) (fun _ _ _ h => h) (Or.inl ⟨by rfl, ?_⟩) ?_ ?_
                rotate_left
                · intro w'; go_simp; with_reducible rfl
                rotate_left
                · simp only [Act.put, OpenRow.s1, OpenRow.s2, OpenRow.s3, i64_w, i32_w]; rfl
                refine pure_ (i := 8) (N := some 48) (v := ?_) (a' := ?_) #[true, true, true, true, true, true, true, true, true, false, false, false, false] rfl rfl (by kernel_rfl) (fun _ _ _ h => h) (Or.inl ⟨by rfl, ?_⟩) ?_ ?_
                rotate_left
                · intro w'; go_simp; with_reducible rfl
                rotate_left
                · simp only [Act.put, OpenRow.s1, OpenRow.s2, OpenRow.s3, i64_w, i32_w]; rfl
                refine pure_ (i := 9) (N := some 49) (v := ?_) (a' := ?_) #[true, true, true, true, true, true, true, true, true, true, false, false, false] rfl rfl (by kernel_rfl) (fun _ _ _ h => h) (Or.inl ⟨by rfl, ?_⟩) ?_ ?_
                rotate_left
                · intro w'; go_simp; with_reducible rfl
                rotate_left
                · simp only [Act.put, OpenRow.s1, OpenRow.s2, OpenRow.s3, i64_w, i32_w]; rfl
                refine one_ (i := 10) (N := some 9) #[true, true, true, true, true, true, true, true, true, true, true, false, false] rfl rfl (by kernel_rfl) (by decide) (fun K hK => ?_)
                refine value_ (w1 := ?_) (v := ?_) (by rfl) rfl ?_ ?_
                rotate_left 2
                · go_simp
                  constructor
                  · rfl
                  · rfl
                have U_2_4_5_6_10 := Aside0.mk (U_2_4_5_6.out.alloc (.cells (arr .u64 z4) 44))
                have A_2_4_5_6_10 := Aside0.mk (blk_alloc A_2_4_5_6.out (.cells (arr .u64 z4) 44))
                have B_2_4_5_6_10 := Aside0.mk (blk_alloc B_2_4_5_6.out (.cells (arr .u64 z4) 44))
                have C_2_4_5_6_10 := Aside0.mk (blk_alloc C_2_4_5_6.out (.cells (arr .u64 z4) 44))
                have G10_2_4_5_6_10 := Aside0.mk (U_2_4_5_6.out.new (.cells (arr .u64 z4) 44))
                have E10 := Aside0.mk U_2_4_5_6.out.size
                have M10_0 := Aside0.mk (ne_of_blk A_2_4_5_6.out)
                have M10_1 := Aside0.mk (ne_of_blk B_2_4_5_6.out)
                have M10_2 := Aside0.mk (ne_of_blk C_2_4_5_6.out)
                refine hK.out _ _ ⟨U_2_4_5_6_10.out, A_2_4_5_6_10.out, B_2_4_5_6_10.out, C_2_4_5_6_10.out⟩ (fun hHeld => ?_)
                clear hK K
                refine norm_ (a' := ?_) ?_ ?_
                rotate_left
                · show Act.put _ (some 9) _ = _
                  simp only [Act.put, OpenRow.s1, OpenRow.s2, OpenRow.s3, i64_w, i32_w]
                  rfl
                exact norm_ (by simp only [putAll, Act.put, List.setIfInBounds_toArray, List.set_cons_zero, List.set_cons_succ] <;> rfl) (hCont _ _ ⟨U_2_4_5_6_10.out, A_2_4_5_6_10.out, B_2_4_5_6_10.out, C_2_4_5_6_10.out, G10_2_4_5_6_10.out, E10.out, M10_0.out, M10_1.out, M10_2.out⟩)
              · skip
                refine value_ (w1 := ?_) (v := ?_) (by rfl) rfl ?_ ?_
                rotate_left 2
                · go_simp
                  constructor
                  · rfl
                  · rfl
                have U_2_4_5_10 := Aside0.mk (U_2_4_5.out.alloc (.cells (arr .u64 z4) 44))
                have A_2_4_5_10 := Aside0.mk (blk_alloc A_2_4_5.out (.cells (arr .u64 z4) 44))
                have B_2_4_5_10 := Aside0.mk (blk_alloc B_2_4_5.out (.cells (arr .u64 z4) 44))
                have C_2_4_5_10 := Aside0.mk (blk_alloc C_2_4_5.out (.cells (arr .u64 z4) 44))
                have G10_2_4_5_10 := Aside0.mk (U_2_4_5.out.new (.cells (arr .u64 z4) 44))
                have E10 := Aside0.mk U_2_4_5.out.size
                have M10_0 := Aside0.mk (ne_of_blk A_2_4_5.out)
                have M10_1 := Aside0.mk (ne_of_blk B_2_4_5.out)
                have M10_2 := Aside0.mk (ne_of_blk C_2_4_5.out)
                refine hK.out _ _ ⟨U_2_4_5_10.out, A_2_4_5_10.out, B_2_4_5_10.out, C_2_4_5_10.out⟩ (fun hHeld => ?_)
                clear hK K
                refine norm_ (a' := ?_) ?_ ?_
                rotate_left
                · show Act.put _ (some 9) _ = _
                  simp only [Act.put, OpenRow.s1, OpenRow.s2, OpenRow.s3, i64_w, i32_w]
                  rfl
                refine one_ (i := 6) (N := some 47) #[true, true, true, true, true, true, true, false, false, false, true, false, false] rfl rfl (by kernel_rfl) (by decide) (fun K hK => ?_)
                refine goes_ Try.func73 (by kernel_rfl) rfl #[.agg (arr .u64 (num xx))] (by rfl) rfl rfl (by simp only [List.map_toArray, List.map_cons, List.map_nil] <;> rfl) ?_
                with_reducible refine (HR.out _).mono ?_
                rintro e w3 ⟨rfl, hb⟩
                refine ⟨_, rfl, ?_⟩
                have U_2_4_5_10_6 := Aside0.mk (U_2_4_5_10.out.step hb)
                have A_2_4_5_10_6 := Aside0.mk (blk_below A_2_4_5_10.out hb)
                have B_2_4_5_10_6 := Aside0.mk (blk_below B_2_4_5_10.out hb)
                have C_2_4_5_10_6 := Aside0.mk (blk_below C_2_4_5_10.out hb)
                have G10_2_4_5_10_6 := Aside0.mk (blk_below G10_2_4_5_10.out hb)
                clear hb
                refine hK.out _ _ ⟨U_2_4_5_10_6.out, A_2_4_5_10_6.out, B_2_4_5_10_6.out, C_2_4_5_10_6.out⟩ (fun hHeld => ?_)
                clear hK K
                refine norm_ (a' := ?_) ?_ ?_
                rotate_left
                · show Act.put _ (some 47) _ = _
                  simp only [Act.put, OpenRow.s1, OpenRow.s2, OpenRow.s3, i64_w, i32_w]
                  rfl
                refine pure_ (i := 7) (N := some 40) (v := ?_) (a' := ?_) #[true, true, true, true, true, true, true, true, false, false, true, false, false] rfl rfl (by kernel_rfl) (fun _ _ _ h => h) (Or.inl ⟨by rfl, ?_⟩) ?_ ?_
                rotate_left
                · intro w'; go_simp; with_reducible rfl
                rotate_left
                · simp only [Act.put, OpenRow.s1, OpenRow.s2, OpenRow.s3, i64_w, i32_w]; rfl
                refine pure_ (i := 8) (N := some 48) (v := ?_) (a' := ?_) #[true, true, true, true, true, true, true, true, true, false, true, false, false] rfl rfl (by kernel_rfl) (fun _ _ _ h => h) (Or.inl ⟨by rfl, ?_⟩) ?_ ?_
                rotate_left
                · intro w'; go_simp; with_reducible rfl
                rotate_left
                · simp only [Act.put, OpenRow.s1, OpenRow.s2, OpenRow.s3, i64_w, i32_w]; rfl
                refine pure_ (i := 9) (N := some 49) (v := ?_) (a' := ?_) #[true, true, true, true, true, true, true, true, true, true, true, false, false] rfl rfl (by kernel_rfl) (fun _ _ _ h => h) (Or.inl ⟨by rfl, ?_⟩) ?_ ?_
                rotate_left
                · intro w'; go_simp; with_reducible rfl
                rotate_left
                · simp only [Act.put, OpenRow.s1, OpenRow.s2, OpenRow.s3, i64_w, i32_w]; rfl
                exact norm_ (by simp only [putAll, Act.put, List.setIfInBounds_toArray, List.set_cons_zero, List.set_cons_succ] <;> rfl) (hCont _ _ ⟨U_2_4_5_10_6.out, A_2_4_5_10_6.out, B_2_4_5_10_6.out, C_2_4_5_10_6.out, G10_2_4_5_10_6.out, E10.out, M10_0.out, M10_1.out, M10_2.out⟩)
            · skip
              refine value_ (w1 := ?_) (v := ?_) (by rfl) rfl ?_ ?_
              rotate_left 2
              · go_simp
                constructor
                · rfl
                · rfl
              have U_2_4_10 := Aside0.mk (U_2_4.out.alloc (.cells (arr .u64 z4) 44))
              have A_2_4_10 := Aside0.mk (blk_alloc A_2_4.out (.cells (arr .u64 z4) 44))
              have B_2_4_10 := Aside0.mk (blk_alloc B_2_4.out (.cells (arr .u64 z4) 44))
              have C_2_4_10 := Aside0.mk (blk_alloc C_2_4.out (.cells (arr .u64 z4) 44))
              have G10_2_4_10 := Aside0.mk (U_2_4.out.new (.cells (arr .u64 z4) 44))
              have E10 := Aside0.mk U_2_4.out.size
              have M10_0 := Aside0.mk (ne_of_blk A_2_4.out)
              have M10_1 := Aside0.mk (ne_of_blk B_2_4.out)
              have M10_2 := Aside0.mk (ne_of_blk C_2_4.out)
              refine hK.out _ _ ⟨U_2_4_10.out, A_2_4_10.out, B_2_4_10.out, C_2_4_10.out⟩ (fun hHeld => ?_)
              clear hK K
              refine norm_ (a' := ?_) ?_ ?_
              rotate_left
              · show Act.put _ (some 9) _ = _
                simp only [Act.put, OpenRow.s1, OpenRow.s2, OpenRow.s3, i64_w, i32_w]
                rfl
              refine one_ (i := 5) (N := some 46) #[true, true, true, true, true, true, false, false, false, false, true, false, false] rfl rfl (by kernel_rfl) (by decide) (fun K hK => ?_)
              refine goes_ Try.func65 (by kernel_rfl) rfl #[.agg (arr .u64 (num nn)), .agg (arr .u64 (num ii))] (by rfl) rfl rfl (by simp only [List.map_toArray, List.map_cons, List.map_nil] <;> rfl) ?_
              with_reducible refine (HT.out _).mono ?_
              rintro e w3 ⟨rfl, hb⟩
              refine ⟨_, rfl, ?_⟩
              have U_2_4_10_5 := Aside0.mk (U_2_4_10.out.step hb)
              have A_2_4_10_5 := Aside0.mk (blk_below A_2_4_10.out hb)
              have B_2_4_10_5 := Aside0.mk (blk_below B_2_4_10.out hb)
              have C_2_4_10_5 := Aside0.mk (blk_below C_2_4_10.out hb)
              have G10_2_4_10_5 := Aside0.mk (blk_below G10_2_4_10.out hb)
              clear hb
              refine hK.out _ _ ⟨U_2_4_10_5.out, A_2_4_10_5.out, B_2_4_10_5.out, C_2_4_10_5.out⟩ (fun hHeld => ?_)
              clear hK K
              refine norm_ (a' := ?_) ?_ ?_
              rotate_left
              · show Act.put _ (some 46) _ = _
                simp only [Act.put, OpenRow.s1, OpenRow.s2, OpenRow.s3, i64_w, i32_w]
                rfl
              refine one_ (i := 6) (N := some 47) #[true, true, true, true, true, true, true, false, false, false, true, false, false] rfl rfl (by kernel_rfl) (by decide) (fun K hK => ?_)
              refine goes_ Try.func73 (by kernel_rfl) rfl #[.agg (arr .u64 (num xx))] (by rfl) rfl rfl (by simp only [List.map_toArray, List.map_cons, List.map_nil] <;> rfl) ?_
              with_reducible refine (HR.out _).mono ?_
              rintro e w3 ⟨rfl, hb⟩
              refine ⟨_, rfl, ?_⟩
              have U_2_4_10_5_6 := Aside0.mk (U_2_4_10_5.out.step hb)
              have A_2_4_10_5_6 := Aside0.mk (blk_below A_2_4_10_5.out hb)
              have B_2_4_10_5_6 := Aside0.mk (blk_below B_2_4_10_5.out hb)
              have C_2_4_10_5_6 := Aside0.mk (blk_below C_2_4_10_5.out hb)
              have G10_2_4_10_5_6 := Aside0.mk (blk_below G10_2_4_10_5.out hb)
              clear hb
              refine hK.out _ _ ⟨U_2_4_10_5_6.out, A_2_4_10_5_6.out, B_2_4_10_5_6.out, C_2_4_10_5_6.out⟩ (fun hHeld => ?_)
              clear hK K
              refine norm_ (a' := ?_) ?_ ?_
              rotate_left
              · show Act.put _ (some 47) _ = _
                simp only [Act.put, OpenRow.s1, OpenRow.s2, OpenRow.s3, i64_w, i32_w]
                rfl
              refine pure_ (i := 7) (N := some 40) (v := ?_) (a' := ?_) #[true, true, true, true, true, true, true, true, false, false, true, false, false] rfl rfl (by kernel_rfl) (fun _ _ _ h => h) (Or.inl ⟨by rfl, ?_⟩) ?_ ?_
              rotate_left
              · intro w'; go_simp; with_reducible rfl
              rotate_left
              · simp only [Act.put, OpenRow.s1, OpenRow.s2, OpenRow.s3, i64_w, i32_w]; rfl
              refine pure_ (i := 8) (N := some 48) (v := ?_) (a' := ?_) #[true, true, true, true, true, true, true, true, true, false, true, false, false] rfl rfl (by kernel_rfl) (fun _ _ _ h => h) (Or.inl ⟨by rfl, ?_⟩) ?_ ?_
              rotate_left
              · intro w'; go_simp; with_reducible rfl
              rotate_left
              · simp only [Act.put, OpenRow.s1, OpenRow.s2, OpenRow.s3, i64_w, i32_w]; rfl
              refine pure_ (i := 9) (N := some 49) (v := ?_) (a' := ?_) #[true, true, true, true, true, true, true, true, true, true, true, false, false] rfl rfl (by kernel_rfl) (fun _ _ _ h => h) (Or.inl ⟨by rfl, ?_⟩) ?_ ?_
              rotate_left
              · intro w'; go_simp; with_reducible rfl
              rotate_left
              · simp only [Act.put, OpenRow.s1, OpenRow.s2, OpenRow.s3, i64_w, i32_w]; rfl
              exact norm_ (by simp only [putAll, Act.put, List.setIfInBounds_toArray, List.set_cons_zero, List.set_cons_succ] <;> rfl) (hCont _ _ ⟨U_2_4_10_5_6.out, A_2_4_10_5_6.out, B_2_4_10_5_6.out, C_2_4_10_5_6.out, G10_2_4_10_5_6.out, E10.out, M10_0.out, M10_1.out, M10_2.out⟩)
          · skip
            refine value_ (w1 := ?_) (v := ?_) (by rfl) rfl ?_ ?_
            rotate_left 2
            · go_simp
              constructor
              · rfl
              · rfl
            have U_2_10 := Aside0.mk (U_2.out.alloc (.cells (arr .u64 z4) 44))
            have A_2_10 := Aside0.mk (blk_alloc A_2.out (.cells (arr .u64 z4) 44))
            have B_2_10 := Aside0.mk (blk_alloc B_2.out (.cells (arr .u64 z4) 44))
            have C_2_10 := Aside0.mk (blk_alloc C_2.out (.cells (arr .u64 z4) 44))
            have G10_2_10 := Aside0.mk (U_2.out.new (.cells (arr .u64 z4) 44))
            have E10 := Aside0.mk U_2.out.size
            have M10_0 := Aside0.mk (ne_of_blk A_2.out)
            have M10_1 := Aside0.mk (ne_of_blk B_2.out)
            have M10_2 := Aside0.mk (ne_of_blk C_2.out)
            refine hK.out _ _ ⟨U_2_10.out, A_2_10.out, B_2_10.out, C_2_10.out⟩ (fun hHeld => ?_)
            clear hK K
            refine norm_ (a' := ?_) ?_ ?_
            rotate_left
            · show Act.put _ (some 9) _ = _
              simp only [Act.put, OpenRow.s1, OpenRow.s2, OpenRow.s3, i64_w, i32_w]
              rfl
            refine one_ (i := 4) (N := some 45) #[true, true, true, true, true, false, false, false, false, false, true, false, false] rfl rfl (by kernel_rfl) (by decide) (fun K hK => ?_)
            refine goes_ Try.func69 (by kernel_rfl) rfl #[.agg (arr .u64 (num dd))] (by rfl) rfl rfl (by simp only [List.map_toArray, List.map_cons, List.map_nil] <;> rfl) ?_
            with_reducible refine (HI.out _).mono ?_
            rintro e w3 ⟨rfl, hb⟩
            refine ⟨_, rfl, ?_⟩
            have U_2_10_4 := Aside0.mk (U_2_10.out.step hb)
            have A_2_10_4 := Aside0.mk (blk_below A_2_10.out hb)
            have B_2_10_4 := Aside0.mk (blk_below B_2_10.out hb)
            have C_2_10_4 := Aside0.mk (blk_below C_2_10.out hb)
            have G10_2_10_4 := Aside0.mk (blk_below G10_2_10.out hb)
            clear hb
            refine hK.out _ _ ⟨U_2_10_4.out, A_2_10_4.out, B_2_10_4.out, C_2_10_4.out⟩ (fun hHeld => ?_)
            clear hK K
            refine norm_ (a' := ?_) ?_ ?_
            rotate_left
            · show Act.put _ (some 45) _ = _
              simp only [Act.put, OpenRow.s1, OpenRow.s2, OpenRow.s3, i64_w, i32_w]
              rfl
            refine one_ (i := 5) (N := some 46) #[true, true, true, true, true, true, false, false, false, false, true, false, false] rfl rfl (by kernel_rfl) (by decide) (fun K hK => ?_)
            refine goes_ Try.func65 (by kernel_rfl) rfl #[.agg (arr .u64 (num nn)), .agg (arr .u64 (num ii))] (by rfl) rfl rfl (by simp only [List.map_toArray, List.map_cons, List.map_nil] <;> rfl) ?_
            with_reducible refine (HT.out _).mono ?_
            rintro e w3 ⟨rfl, hb⟩
            refine ⟨_, rfl, ?_⟩
            have U_2_10_4_5 := Aside0.mk (U_2_10_4.out.step hb)
            have A_2_10_4_5 := Aside0.mk (blk_below A_2_10_4.out hb)
            have B_2_10_4_5 := Aside0.mk (blk_below B_2_10_4.out hb)
            have C_2_10_4_5 := Aside0.mk (blk_below C_2_10_4.out hb)
            have G10_2_10_4_5 := Aside0.mk (blk_below G10_2_10_4.out hb)
            clear hb
            refine hK.out _ _ ⟨U_2_10_4_5.out, A_2_10_4_5.out, B_2_10_4_5.out, C_2_10_4_5.out⟩ (fun hHeld => ?_)
            clear hK K
            refine norm_ (a' := ?_) ?_ ?_
            rotate_left
            · show Act.put _ (some 46) _ = _
              simp only [Act.put, OpenRow.s1, OpenRow.s2, OpenRow.s3, i64_w, i32_w]
              rfl
            refine one_ (i := 6) (N := some 47) #[true, true, true, true, true, true, true, false, false, false, true, false, false] rfl rfl (by kernel_rfl) (by decide) (fun K hK => ?_)
            refine goes_ Try.func73 (by kernel_rfl) rfl #[.agg (arr .u64 (num xx))] (by rfl) rfl rfl (by simp only [List.map_toArray, List.map_cons, List.map_nil] <;> rfl) ?_
            with_reducible refine (HR.out _).mono ?_
            rintro e w3 ⟨rfl, hb⟩
            refine ⟨_, rfl, ?_⟩
            have U_2_10_4_5_6 := Aside0.mk (U_2_10_4_5.out.step hb)
            have A_2_10_4_5_6 := Aside0.mk (blk_below A_2_10_4_5.out hb)
            have B_2_10_4_5_6 := Aside0.mk (blk_below B_2_10_4_5.out hb)
            have C_2_10_4_5_6 := Aside0.mk (blk_below C_2_10_4_5.out hb)
            have G10_2_10_4_5_6 := Aside0.mk (blk_below G10_2_10_4_5.out hb)
            clear hb
            refine hK.out _ _ ⟨U_2_10_4_5_6.out, A_2_10_4_5_6.out, B_2_10_4_5_6.out, C_2_10_4_5_6.out⟩ (fun hHeld => ?_)
            clear hK K
            refine norm_ (a' := ?_) ?_ ?_
            rotate_left
            · show Act.put _ (some 47) _ = _
              simp only [Act.put, OpenRow.s1, OpenRow.s2, OpenRow.s3, i64_w, i32_w]
              rfl
            refine pure_ (i := 7) (N := some 40) (v := ?_) (a' := ?_) #[true, true, true, true, true, true, true, true, false, false, true, false, false] rfl rfl (by kernel_rfl) (fun _ _ _ h => h) (Or.inl ⟨by rfl, ?_⟩) ?_ ?_
            rotate_left
            · intro w'; go_simp; with_reducible rfl
            rotate_left
            · simp only [Act.put, OpenRow.s1, OpenRow.s2, OpenRow.s3, i64_w, i32_w]; rfl
            refine pure_ (i := 8) (N := some 48) (v := ?_) (a' := ?_) #[true, true, true, true, true, true, true, true, true, false, true, false, false] rfl rfl (by kernel_rfl) (fun _ _ _ h => h) (Or.inl ⟨by rfl, ?_⟩) ?_ ?_
            rotate_left
            · intro w'; go_simp; with_reducible rfl
            rotate_left
            · simp only [Act.put, OpenRow.s1, OpenRow.s2, OpenRow.s3, i64_w, i32_w]; rfl
            refine pure_ (i := 9) (N := some 49) (v := ?_) (a' := ?_) #[true, true, true, true, true, true, true, true, true, true, true, false, false] rfl rfl (by kernel_rfl) (fun _ _ _ h => h) (Or.inl ⟨by rfl, ?_⟩) ?_ ?_
            rotate_left
            · intro w'; go_simp; with_reducible rfl
            rotate_left
            · simp only [Act.put, OpenRow.s1, OpenRow.s2, OpenRow.s3, i64_w, i32_w]; rfl
            exact norm_ (by simp only [putAll, Act.put, List.setIfInBounds_toArray, List.set_cons_zero, List.set_cons_succ] <;> rfl) (hCont _ _ ⟨U_2_10_4_5_6.out, A_2_10_4_5_6.out, B_2_10_4_5_6.out, C_2_10_4_5_6.out, G10_2_10_4_5_6.out, E10.out, M10_0.out, M10_1.out, M10_2.out⟩)
        · skip
          refine value_ (w1 := ?_) (v := ?_) (by rfl) rfl ?_ ?_
          rotate_left 2
          · go_simp
            constructor
            · rfl
            · rfl
          have U_10 := Aside0.mk (U.out.alloc (.cells (arr .u64 z4) 44))
          have A_10 := Aside0.mk (blk_alloc A.out (.cells (arr .u64 z4) 44))
          have B_10 := Aside0.mk (blk_alloc B.out (.cells (arr .u64 z4) 44))
          have C_10 := Aside0.mk (blk_alloc C.out (.cells (arr .u64 z4) 44))
          have G10_10 := Aside0.mk (U.out.new (.cells (arr .u64 z4) 44))
          have E10 := Aside0.mk U.out.size
          have M10_0 := Aside0.mk (ne_of_blk A.out)
          have M10_1 := Aside0.mk (ne_of_blk B.out)
          have M10_2 := Aside0.mk (ne_of_blk C.out)
          refine hK.out _ _ ⟨U_10.out, A_10.out, B_10.out, C_10.out⟩ (fun hHeld => ?_)
          clear hK K
          refine norm_ (a' := ?_) ?_ ?_
          rotate_left
          · show Act.put _ (some 9) _ = _
            simp only [Act.put, OpenRow.s1, OpenRow.s2, OpenRow.s3, i64_w, i32_w]
            rfl
          refine one_ (i := 2) (N := some 43) #[true, true, true, true, false, false, false, false, false, false, true, false, false] rfl rfl (by kernel_rfl) (by decide) (fun K hK => ?_)
          refine goes_ Try.func54 (by kernel_rfl) rfl #[.agg (arr .u64 (num q)), .agg #[.int .u64 1, .int .u64 0, .int .u64 0, .int .u64 0]] (by rfl) rfl rfl (by simp only [List.map_toArray, List.map_cons, List.map_nil] <;> rfl) ?_
          with_reducible refine (HN.out _).mono ?_
          rintro e w3 ⟨rfl, hb⟩
          refine ⟨_, rfl, ?_⟩
          have U_10_2 := Aside0.mk (U_10.out.step hb)
          have A_10_2 := Aside0.mk (blk_below A_10.out hb)
          have B_10_2 := Aside0.mk (blk_below B_10.out hb)
          have C_10_2 := Aside0.mk (blk_below C_10.out hb)
          have G10_10_2 := Aside0.mk (blk_below G10_10.out hb)
          clear hb
          refine hK.out _ _ ⟨U_10_2.out, A_10_2.out, B_10_2.out, C_10_2.out⟩ (fun hHeld => ?_)
          clear hK K
          refine norm_ (a' := ?_) ?_ ?_
          rotate_left
          · show Act.put _ (some 43) _ = _
            simp only [Act.put, OpenRow.s1, OpenRow.s2, OpenRow.s3, i64_w, i32_w]
            rfl
          refine one_ (i := 4) (N := some 45) #[true, true, true, true, true, false, false, false, false, false, true, false, false] rfl rfl (by kernel_rfl) (by decide) (fun K hK => ?_)
          refine goes_ Try.func69 (by kernel_rfl) rfl #[.agg (arr .u64 (num dd))] (by rfl) rfl rfl (by simp only [List.map_toArray, List.map_cons, List.map_nil] <;> rfl) ?_
          with_reducible refine (HI.out _).mono ?_
          rintro e w3 ⟨rfl, hb⟩
          refine ⟨_, rfl, ?_⟩
          have U_10_2_4 := Aside0.mk (U_10_2.out.step hb)
          have A_10_2_4 := Aside0.mk (blk_below A_10_2.out hb)
          have B_10_2_4 := Aside0.mk (blk_below B_10_2.out hb)
          have C_10_2_4 := Aside0.mk (blk_below C_10_2.out hb)
          have G10_10_2_4 := Aside0.mk (blk_below G10_10_2.out hb)
          clear hb
          refine hK.out _ _ ⟨U_10_2_4.out, A_10_2_4.out, B_10_2_4.out, C_10_2_4.out⟩ (fun hHeld => ?_)
          clear hK K
          refine norm_ (a' := ?_) ?_ ?_
          rotate_left
          · show Act.put _ (some 45) _ = _
            simp only [Act.put, OpenRow.s1, OpenRow.s2, OpenRow.s3, i64_w, i32_w]
            rfl
          refine one_ (i := 5) (N := some 46) #[true, true, true, true, true, true, false, false, false, false, true, false, false] rfl rfl (by kernel_rfl) (by decide) (fun K hK => ?_)
          refine goes_ Try.func65 (by kernel_rfl) rfl #[.agg (arr .u64 (num nn)), .agg (arr .u64 (num ii))] (by rfl) rfl rfl (by simp only [List.map_toArray, List.map_cons, List.map_nil] <;> rfl) ?_
          with_reducible refine (HT.out _).mono ?_
          rintro e w3 ⟨rfl, hb⟩
          refine ⟨_, rfl, ?_⟩
          have U_10_2_4_5 := Aside0.mk (U_10_2_4.out.step hb)
          have A_10_2_4_5 := Aside0.mk (blk_below A_10_2_4.out hb)
          have B_10_2_4_5 := Aside0.mk (blk_below B_10_2_4.out hb)
          have C_10_2_4_5 := Aside0.mk (blk_below C_10_2_4.out hb)
          have G10_10_2_4_5 := Aside0.mk (blk_below G10_10_2_4.out hb)
          clear hb
          refine hK.out _ _ ⟨U_10_2_4_5.out, A_10_2_4_5.out, B_10_2_4_5.out, C_10_2_4_5.out⟩ (fun hHeld => ?_)
          clear hK K
          refine norm_ (a' := ?_) ?_ ?_
          rotate_left
          · show Act.put _ (some 46) _ = _
            simp only [Act.put, OpenRow.s1, OpenRow.s2, OpenRow.s3, i64_w, i32_w]
            rfl
          refine one_ (i := 6) (N := some 47) #[true, true, true, true, true, true, true, false, false, false, true, false, false] rfl rfl (by kernel_rfl) (by decide) (fun K hK => ?_)
          refine goes_ Try.func73 (by kernel_rfl) rfl #[.agg (arr .u64 (num xx))] (by rfl) rfl rfl (by simp only [List.map_toArray, List.map_cons, List.map_nil] <;> rfl) ?_
          with_reducible refine (HR.out _).mono ?_
          rintro e w3 ⟨rfl, hb⟩
          refine ⟨_, rfl, ?_⟩
          have U_10_2_4_5_6 := Aside0.mk (U_10_2_4_5.out.step hb)
          have A_10_2_4_5_6 := Aside0.mk (blk_below A_10_2_4_5.out hb)
          have B_10_2_4_5_6 := Aside0.mk (blk_below B_10_2_4_5.out hb)
          have C_10_2_4_5_6 := Aside0.mk (blk_below C_10_2_4_5.out hb)
          have G10_10_2_4_5_6 := Aside0.mk (blk_below G10_10_2_4_5.out hb)
          clear hb
          refine hK.out _ _ ⟨U_10_2_4_5_6.out, A_10_2_4_5_6.out, B_10_2_4_5_6.out, C_10_2_4_5_6.out⟩ (fun hHeld => ?_)
          clear hK K
          refine norm_ (a' := ?_) ?_ ?_
          rotate_left
          · show Act.put _ (some 47) _ = _
            simp only [Act.put, OpenRow.s1, OpenRow.s2, OpenRow.s3, i64_w, i32_w]
            rfl
          refine pure_ (i := 7) (N := some 40) (v := ?_) (a' := ?_) #[true, true, true, true, true, true, true, true, false, false, true, false, false] rfl rfl (by kernel_rfl) (fun _ _ _ h => h) (Or.inl ⟨by rfl, ?_⟩) ?_ ?_
          rotate_left
          · intro w'; go_simp; with_reducible rfl
          rotate_left
          · simp only [Act.put, OpenRow.s1, OpenRow.s2, OpenRow.s3, i64_w, i32_w]; rfl
          refine pure_ (i := 8) (N := some 48) (v := ?_) (a' := ?_) #[true, true, true, true, true, true, true, true, true, false, true, false, false] rfl rfl (by kernel_rfl) (fun _ _ _ h => h) (Or.inl ⟨by rfl, ?_⟩) ?_ ?_
          rotate_left
          · intro w'; go_simp; with_reducible rfl
          rotate_left
          · simp only [Act.put, OpenRow.s1, OpenRow.s2, OpenRow.s3, i64_w, i32_w]; rfl
          refine pure_ (i := 9) (N := some 49) (v := ?_) (a' := ?_) #[true, true, true, true, true, true, true, true, true, true, true, false, false] rfl rfl (by kernel_rfl) (fun _ _ _ h => h) (Or.inl ⟨by rfl, ?_⟩) ?_ ?_
          rotate_left
          · intro w'; go_simp; with_reducible rfl
          rotate_left
          · simp only [Act.put, OpenRow.s1, OpenRow.s2, OpenRow.s3, i64_w, i32_w]; rfl
          exact norm_ (by simp only [putAll, Act.put, List.setIfInBounds_toArray, List.set_cons_zero, List.set_cons_succ] <;> rfl) (hCont _ _ ⟨U_10_2_4_5_6.out, A_10_2_4_5_6.out, B_10_2_4_5_6.out, C_10_2_4_5_6.out, G10_10_2_4_5_6.out, E10.out, M10_0.out, M10_1.out, M10_2.out⟩)
      rintro g10_ w9 ⟨hS0, hS1, hS2, hS3, hG10, hE10, hM10_0, hM10_1, hM10_2⟩
      have T9 := Aside0.mk hS0
      have Z9_1 := Aside0.mk hS1
      have Z9_2 := Aside0.mk hS2
      have Z9_3 := Aside0.mk hS3
      have GG10 := Aside0.mk hG10
      have EE10 := Aside0.mk hE10
      have MM10_0 := Aside0.mk hM10_0
      have MM10_1 := Aside0.mk hM10_1
      have MM10_2 := Aside0.mk hM10_2
      have hHeld := (And.intro hS0 (And.intro hS1 (And.intro hS2 hS3)))
      clear hG10 hE10 hM10_0 hM10_1 hM10_2
      refine norm_ (a' := ?_) ?_ ?_
      rotate_left
      · simp only [putAll, Act.put, List.setIfInBounds_toArray, List.set_cons_zero, List.set_cons_succ]
        rfl
      refine one_ (i := 11) (N := none) #[true, true, true, true, true, true, true, true, true, true, true, true, false] rfl rfl (by kernel_rfl) (by decide) (fun K hK => ?_)
      refine st_step (by rfl) rfl 44 (.tmp 9) (.tmp 48) rfl g10_ rfl rfl GG10.out (m := 4) (by kernel_rfl) (num_length _) (by rw [num_length]; rfl) ?_
      intro w6 h1 h2 h3 h4
      have X := Aside0.mk h1
      have V := Aside0.mk (St.other T9.out h2 h3 EE10.out)
      have A2 := Aside0.mk ((h2 _ MM10_0.out).trans Z9_1.out)
      have B2 := Aside0.mk ((h2 _ MM10_1.out).trans Z9_2.out)
      have C2 := Aside0.mk ((h2 _ MM10_2.out).trans Z9_3.out)
      clear h1 h2 h3 h4
      refine hK.out _ _ ⟨V.out, A2.out, B2.out, C2.out⟩ (fun hHeld => ?_)
      clear hK K
      refine pure_ (i := 12) (N := some 10) (v := ?_) (a' := ?_) #[true, true, true, true, true, true, true, true, true, true, true, true, true] rfl rfl (by kernel_rfl) (fun _ _ _ h => h) (Or.inl ⟨by rfl, ?_⟩) ?_ ?_
      rotate_left
      · intro w'; go_simp; with_reducible rfl
      rotate_left
      · simp only [Act.put, OpenRow.s1, OpenRow.s2, OpenRow.s3, i64_w, i32_w]; rfl
      refine done_ (by kernel_rfl) ?_

      have VA := V
      have AA := A2
      have XA := X
      have E9 := EE10
      have NE := MM10_0
      clear T9 Z9_1 Z9_2 Z9_3 GG10 EE10 MM10_0 MM10_1 MM10_2 V A2 B2 C2 X U A B C HN HI HT HR
      generalize g10_ = g9 at *
      cases ok with
      | false =>
        have hf := F1.out rfl
        go_wp2_with (first
          | (refine st_arr rfl 52 (.tmp 2) (.tmp 59) rfl w.heap.size (xs := zL) rfl rfl (VA.out.blk 0 rfl) (m := 16) (by kernel_rfl) rfl rfl ?_; intro w' h1 h2 h4 h3; have H1 := Aside0.mk h1; have VY := Aside0.mk (VA.out.row 0 rfl h1 h2 h3); clear h1 h2 h3 h4))
        exact bodyPost_ret (results_ct Try.results75 _ _ w.heap.size 52 _ (0, 0) _ rfl H1.out Try.underlying52 rfl (by kernel_rfl)) rfl ⟨by first | (rw [F7.out hf, hf]; done) | (rw [F7.out hf, hf]; rfl) | (rw [F7.out hf]; rfl) | rfl, VY.out.below⟩
      | true =>
        by_cases hz : x0 = 0
        · rw [decide_eq_true hz] at HZ
          cases sg with
          | true =>
            have hf := F2.out hz rfl
            clear hz
            go_wp2_with (first
              | ((with_reducible refine gate_dst (N := 53) rfl ?_); refine ld_arr_on (by rfl) 44 (.tmp 9) rfl g9 rfl XA.out Try.underlying44 (m := 4) (by kernel_rfl) (num_length _) ?_)
              | ((with_reducible refine (HZ.out _).mono ?_); rintro e w7 ⟨rfl, hb⟩; have VB := Aside0.mk (VA.out.step hb); have AB := Aside0.mk (blk_below AA.out hb); have XB := Aside0.mk (blk_below XA.out hb); clear hb)
              | (refine st_arr rfl 52 (.tmp 2) (.tmp 59) rfl w.heap.size (xs := zL) rfl rfl (VB.out.blk 0 rfl) (m := 16) (by kernel_rfl) rfl rfl ?_; intro w' h1 h2 h4 h3; have H1 := Aside0.mk h1; have VY := Aside0.mk (VB.out.row 0 rfl h1 h2 h3); clear h1 h2 h3 h4))
            exact bodyPost_ret (results_ct Try.results75 _ _ w.heap.size 52 _ (0, 0) _ rfl H1.out Try.underlying52 rfl (by kernel_rfl)) rfl ⟨by first | (rw [F7.out hf, hf]; done) | (rw [F7.out hf, hf]; rfl) | (rw [F7.out hf]; rfl) | rfl, VY.out.below⟩
          | false =>
            have hf := F3.out rfl (fun h => by cases h.2)
            have hv := F4.out hf x0 (F6.out rfl)
            have HA2 := Aside0.mk (HA.out x0 HX0.out)
            clear hz F4 F5 F6 F3 F2 F1 HA
            go_wp2_with (first
              | ((with_reducible refine gate_dst (N := 53) rfl ?_); refine ld_arr_on (by rfl) 44 (.tmp 9) rfl g9 rfl XA.out Try.underlying44 (m := 4) (by kernel_rfl) (num_length _) ?_)
              | ((with_reducible refine (HZ.out _).mono ?_); rintro e w7 ⟨rfl, hb⟩; have VB := Aside0.mk (VA.out.step hb); have AB := Aside0.mk (blk_below AA.out hb); have XB := Aside0.mk (blk_below XA.out hb); clear hb)
              | ((with_reducible refine gate_dst (N := 63) rfl ?_); refine ld_arr rfl 44 (.tmp 9) rfl g9 rfl XB.out Try.underlying44 (m := 4) (by kernel_rfl) (num_length _) ?_)
              | ((with_reducible refine gate_dst (N := 64) rfl ?_); refine ld_arr rfl 44 (.tmp 6) rfl g6 rfl AB.out Try.underlying44 (m := 4) (by kernel_rfl) (num_length _) ?_)
              | ((with_reducible refine (HA2.out _).mono ?_); rintro e w9 ⟨rfl, hb⟩; have VZ := Aside0.mk (VB.out.step hb); clear hb)
              | (refine st_arr rfl 52 (.tmp 2) (.tmp 65) rfl w.heap.size (xs := ptL x0 y 1 (x0 * y % PP)) rfl rfl (VZ.out.blk 0 rfl) (m := 16) (by kernel_rfl) (ptL_length _ _ _ _) (by rw [ptL_length]; rfl) ?_; intro w' h1 h2 h4 h3; have H1 := Aside0.mk h1; have VY := Aside0.mk (VZ.out.row 0 rfl h1 h2 h3); clear h1 h2 h3 h4))
            exact bodyPost_ret (results_ct Try.results75 _ _ w.heap.size 52 _ (0, 0) _ rfl H1.out Try.underlying52 rfl (by rw [arr_size, ptL_length]; kernel_rfl)) rfl ⟨by first | (rw [hv, hf]; done) | (rw [hv, hf]; rfl) | (rw [hv]; rfl) | rfl, VY.out.below⟩
        · rw [decide_eq_false hz] at HZ
          cases sg with
          | true =>
            have hf := F3.out rfl (fun h => hz h.1)
            have hx1 := Nat.mod_lt (PP - x0) FldP.PP_pos
            have hv := F4.out hf _ (F5.out rfl)
            clear hz F4 F5 F6 F3 F2 F1
            generalize (PP - x0) % PP = x1 at *
            have HA2 := Aside0.mk (HA.out x1 hx1)
            clear HA
            go_wp2_with (first
              | ((with_reducible refine gate_dst (N := 53) rfl ?_); refine ld_arr_on (by rfl) 44 (.tmp 9) rfl g9 rfl XA.out Try.underlying44 (m := 4) (by kernel_rfl) (num_length _) ?_)
              | ((with_reducible refine (HZ.out _).mono ?_); rintro e w7 ⟨rfl, hb⟩; have VB := Aside0.mk (VA.out.step hb); have AB := Aside0.mk (blk_below AA.out hb); have XB := Aside0.mk (blk_below XA.out hb); clear hb)
              | ((with_reducible refine gate_dst (N := 61) rfl ?_); refine ld_arr rfl 44 (.tmp 9) rfl g9 rfl XB.out Try.underlying44 (m := 4) (by kernel_rfl) (num_length _) ?_)
              | ((with_reducible refine (HNG.out _).mono ?_); rintro e w7 ⟨rfl, hb⟩; have VN := Aside0.mk (VB.out.step hb); have AN := Aside0.mk (blk_below AB.out hb); have XN := Aside0.mk (blk_below XB.out hb); clear hb)
              | (refine st_arr rfl 44 (.tmp 9) (.tmp 62) rfl g9 (xs := num x1) rfl rfl XN.out (m := 4) (by kernel_rfl) (num_length _) (by rw [num_length, num_length]) ?_; intro w8 h1 h2 h4 h3; have X9 := Aside0.mk h1; have V9 := Aside0.mk (St.other VN.out h2 h3 E9.out); have A9 := Aside0.mk ((h2 _ NE.out).trans AN.out); clear h1 h2 h3 h4)
              | ((with_reducible refine gate_dst (N := 63) rfl ?_); refine ld_arr rfl 44 (.tmp 9) rfl g9 rfl X9.out Try.underlying44 (m := 4) (by kernel_rfl) (num_length _) ?_)
              | ((with_reducible refine gate_dst (N := 64) rfl ?_); refine ld_arr rfl 44 (.tmp 6) rfl g6 rfl A9.out Try.underlying44 (m := 4) (by kernel_rfl) (num_length _) ?_)
              | ((with_reducible refine (HA2.out _).mono ?_); rintro e w9 ⟨rfl, hb⟩; have VZ := Aside0.mk (V9.out.step hb); clear hb)
              | (refine st_arr rfl 52 (.tmp 2) (.tmp 65) rfl w.heap.size (xs := ptL x1 y 1 (x1 * y % PP)) rfl rfl (VZ.out.blk 0 rfl) (m := 16) (by kernel_rfl) (ptL_length _ _ _ _) (by rw [ptL_length]; rfl) ?_; intro w' h1 h2 h4 h3; have H1 := Aside0.mk h1; have VY := Aside0.mk (VZ.out.row 0 rfl h1 h2 h3); clear h1 h2 h3 h4))
            exact bodyPost_ret (results_ct Try.results75 _ _ w.heap.size 52 _ (0, 0) _ rfl H1.out Try.underlying52 rfl (by rw [arr_size, ptL_length]; kernel_rfl)) rfl ⟨by first | (rw [hv, hf]; done) | (rw [hv, hf]; rfl) | (rw [hv]; rfl) | rfl, VY.out.below⟩
          | false =>
            have hf := F3.out rfl (fun h => hz h.1)
            have hv := F4.out hf x0 (F6.out rfl)
            have HA2 := Aside0.mk (HA.out x0 HX0.out)
            clear hz F4 F5 F6 F3 F2 F1 HA
            go_wp2_with (first
              | ((with_reducible refine gate_dst (N := 53) rfl ?_); refine ld_arr_on (by rfl) 44 (.tmp 9) rfl g9 rfl XA.out Try.underlying44 (m := 4) (by kernel_rfl) (num_length _) ?_)
              | ((with_reducible refine (HZ.out _).mono ?_); rintro e w7 ⟨rfl, hb⟩; have VB := Aside0.mk (VA.out.step hb); have AB := Aside0.mk (blk_below AA.out hb); have XB := Aside0.mk (blk_below XA.out hb); clear hb)
              | ((with_reducible refine gate_dst (N := 63) rfl ?_); refine ld_arr rfl 44 (.tmp 9) rfl g9 rfl XB.out Try.underlying44 (m := 4) (by kernel_rfl) (num_length _) ?_)
              | ((with_reducible refine gate_dst (N := 64) rfl ?_); refine ld_arr rfl 44 (.tmp 6) rfl g6 rfl AB.out Try.underlying44 (m := 4) (by kernel_rfl) (num_length _) ?_)
              | ((with_reducible refine (HA2.out _).mono ?_); rintro e w9 ⟨rfl, hb⟩; have VZ := Aside0.mk (VB.out.step hb); clear hb)
              | (refine st_arr rfl 52 (.tmp 2) (.tmp 65) rfl w.heap.size (xs := ptL x0 y 1 (x0 * y % PP)) rfl rfl (VZ.out.blk 0 rfl) (m := 16) (by kernel_rfl) (ptL_length _ _ _ _) (by rw [ptL_length]; rfl) ?_; intro w' h1 h2 h4 h3; have H1 := Aside0.mk h1; have VY := Aside0.mk (VZ.out.row 0 rfl h1 h2 h3); clear h1 h2 h3 h4))
            exact bodyPost_ret (results_ct Try.results75 _ _ w.heap.size 52 _ (0, 0) _ rfl H1.out Try.underlying52 rfl (by rw [arr_size, ptL_length]; kernel_rfl)) rfl ⟨by first | (rw [hv, hf]; done) | (rw [hv, hf]; rfl) | (rw [hv]; rfl) | rfl, VY.out.below⟩
    · have he' := Bool.eq_false_iff.mpr he
      have hf := okP_el he'
      have F7 := Aside0.mk (fun h => ptV_no (l := l) h)
      rw [he'] at HIE
      clear he he'
      go_enter Try.func75, Try.ntmps75
      go_wp2_with (first
        | ((refine (HCl.out _ HB0.out).mono ?_); rintro e w1 ⟨v, rfl, hR, hb⟩; obtain ⟨go, co, eo, gb, gl, _, HGc⟩ := Kd.R_form hR (by omega); rw [HLW.out] at eo; subst eo; have GB := Aside0.mk gb; rw [World.size_alloc] at GB; have S1 := Aside0.mk (S.out.step hb); have hx0 : w1.cell? ⟨go, 31, none⟩ = some (.int .u8 b) := (by rw [HBD.out]; exact (Kd.R_celln 0 hR (31 : Int) (by omega) (by omega)).1); have hf0 : w1.frozen? ⟨go, 31, none⟩ = false := (Kd.R_celln 0 hR (31 : Int) (by omega) (by omega)).2; have HP31 : Aside0 ((Kd.int .u8).R 5 (w1.setCell ⟨go, 31, none⟩ (.int .u8 lo)) (w.alloc (.cells (arr .u64 zL) 52)).heap.size (fun _ => True) (.slice (some ⟨go, 0, none⟩) 32 co) (lowB l)) := ⟨(by rw [← HLS.out]; exact (Kd.R_putg hR (31 : Int) lo).1)⟩; have HC3 := Aside0.mk (Kd.R_reads' HP31.out).2.2; have HCO := Aside0.mk (Kd.R_reads' HP31.out).2.1; rw [lowB_length, HLW.out] at HC3; clear hb hR gb gl HGc)
        | ((with_reducible refine (HIE.out _ _ _ HC3.out HCO.out).mono ?_); rintro e w2 ⟨rfl, hb⟩; have S2 := Aside0.mk ((St_far S1.out go 31 _ GB.out).step hb); have HC4 := Aside0.mk (Kd.C_below HC3.out hb); clear hb)
        | (refine st_arr rfl 52 (.tmp 2) (.tmp 29) rfl w.heap.size (xs := zL) rfl rfl (S2.out.blk 0 rfl) (m := 16) (by kernel_rfl) rfl rfl ?_; intro w' h1 h2 h4 h3; have H1 := Aside0.mk h1; have VY := Aside0.mk (S2.out.row 0 rfl h1 h2 h3); clear h1 h2 h3 h4))
      exact bodyPost_ret (results_ct Try.results75 _ _ w.heap.size 52 _ (0, 0) _ rfl H1.out Try.underlying52 rfl (by kernel_rfl)) rfl ⟨by first | (rw [F7.out hf, hf]; done) | (rw [F7.out hf, hf]; rfl) | (rw [F7.out hf]; rfl) | rfl, VY.out.below⟩
  · have hll : ¬ (l.length : Int) = 32 := by omega
    rw [ptV_no (okP_len hl), okP_len hl]
    go_enter Try.func75, Try.ntmps75
    go_wp2_with (first
      | (refine st_arr rfl 52 (.tmp 2) (.tmp 14) rfl w.heap.size (xs := zL) rfl rfl (S.out.blk 0 rfl) (m := 16) (by kernel_rfl) rfl rfl ?_; intro w' h1 h2 h4 h3; have H1 := Aside0.mk h1; have S2 := Aside0.mk (S.out.row 0 rfl h1 h2 h3); clear h1 h2 h3 h4))
    exact bodyPost_ret (results_ct Try.results75 _ _ w.heap.size 52 _ (0, 0) _ rfl H1.out Try.underlying52 rfl (by kernel_rfl)) rfl ⟨rfl, S2.out.below⟩


end Go.Proofs.Ytijeackkgcnbgaa.XO

namespace Go.Proofs.Ytijeackkgcnbgaa.XO
open Go.Proofs.Ytijeackkgcnbgaa.Limb Go.Proofs.Ytijeackkgcnbgaa.Arr Go.Proofs.Ytijeackkgcnbgaa.FldA Go.Proofs.Ytijeackkgcnbgaa.FldB Go.Proofs.Ytijeackkgcnbgaa.FldC Go.Proofs.Ytijeackkgcnbgaa.FldS Go.Proofs.Ytijeackkgcnbgaa.FldP Go.Proofs.Ytijeackkgcnbgaa.FldW Go.Proofs.Ytijeackkgcnbgaa.FldM Go.Proofs.Ytijeackkgcnbgaa.FldT Go.Proofs.Ytijeackkgcnbgaa.FldRoot Go.Proofs.Ytijeackkgcnbgaa.FldRoot2 Go.Proofs.Ytijeackkgcnbgaa.FldPt Go.Proofs.Ytijeackkgcnbgaa.St Go.Proofs.Ytijeackkgcnbgaa.StOps Go.Proofs.Ytijeackkgcnbgaa.StMid Go.Proofs.Ytijeackkgcnbgaa.StEq Go.Proofs.Ytijeackkgcnbgaa.StPt Go.Proofs.Ytijeackkgcnbgaa.StIdx
open Go.RowKit Go.Proofs.YtijeackkgcnbgaaW.PrintWords Go.Proofs.YtijeackkgcnbgaaW.PrintLast Go.Proofs.YtijeackkgcnbgaaW.PrintMore
attribute [local go_sem] max2_int min2_int max_two min_two max_three min_three max_four min_four   -- for this text's walks alone
set_option linter.unusedVariables false
set_option linter.unusedSimpArgs false

/-! ### impl_PointOK: function 39 -/
def impl_PointOK.f (l0 : List Int) : Option (Bool) := if okB l0 then some (okP l0) else none
theorem ptV_length (l : List Int) : (ptV l).length = 16 := by
  unfold ptV; split
  · exact ptL_length _ _ _ _
  · rfl
set_option maxHeartbeats 1000000 in
set_option maxRecDepth 100000 in
theorem impl_PointOK.calls (A0 : Option Addr) (c0 : Nat) (l0 : List Int) (r : Bool) (w : World) (hr0 : Kd.C (Kd.int .u8) w A0 l0.length l0) (hc0 : l0.length ≤ c0) (h : impl_PointOK.f l0 = some r) :
    Calls Try.prog 39 #[.slice A0 l0.length c0] w fun e w' => e = .returned (.bool r) ∧ Below w.heap.size w w' := by
  unfold impl_PointOK.f at h
  by_cases ho : okB l0 = true
  · rw [if_pos ho] at h
    obtain rfl := Option.some.inj h
    clear h
    have HP := Aside0.mk (impl_pointOf.calls A0 c0 l0 w hr0 hc0 ho)
    have HL := Aside0.mk (ptV_length l0)
    clear hr0 hc0 ho
    generalize okP l0 = ok at *
    generalize ptV l0 = xs at *
    go_enter Try.func39, Try.ntmps39
    go_wp2_with (first
      | ((with_reducible refine (HP.out).mono ?_); rintro e w1 ⟨rfl, hb⟩; have B1 := Aside0.mk hb; clear hb)
      | (refine st_arr rfl 52 (.tmp 3) (.tmp 8) rfl w1.heap.size (xs := xs) rfl rfl (blk_new w1 (.cells (arr .u64 zL) 52)) (m := 16) (by kernel_rfl) HL.out (by rw [HL.out]; rfl) ?_; intro w2 h1 h2 h4 h3; have B2 := Aside0.mk (h3 _ _ (below_alloc B1.out _) B1.out.size); clear h1 h2 h3 h4))
    go_ret
    exact ⟨rfl, B2.out⟩
  · rw [if_neg ho] at h; cases h


/-! ### laws_FnExactPointOK: function 13 -/
def laws_FnExactPointOK.f (k : Nat) (l0 : List Int) : Option (Bool) := if (l0.length : Int) > 1048576 then (some true) else ((laws_toByteS.f k l0).bind fun t108 => ((spec_PointOK.f t108).bind fun t111 => ((laws_toByteS.f k l0).bind fun t112 => ((impl_PointOK.f t112).bind fun t115 => (if (t115 != t111) = true then (some false) else ((laws_toByteS.f k l0).bind fun t116 => ((laws_eqByteS.f k t112 t116).bind fun t119 => (if t119 = true then (some true) else (some false)))))))))
theorem laws_FnExactPointOK.mono : ∀ a0 k, LeO (laws_FnExactPointOK.f k a0) (laws_FnExactPointOK.f (k + 1) a0) := by
  intro a0 k
  unfold laws_FnExactPointOK.f
  repeat' first
      | (with_reducible exact laws_eqByteS.mono _ _ _)
      | (with_reducible exact laws_toByteS.mono _ _)
      | (with_reducible exact LeO.refl _)
      | (with_reducible exact LeO.none _)
      | (with_reducible refine LeO.ite ?_ ?_)
      | (with_reducible refine LeO.bind ?_ (fun _ => ?_))
      | exact laws_eqByteS.mono _ _ _
      | exact laws_toByteS.mono _ _
      | exact LeO.none _
      | refine LeO.ite ?_ ?_
      | refine LeO.bind ?_ (fun _ => ?_)
set_option maxHeartbeats 8000000 in
set_option maxRecDepth 100000 in
theorem laws_FnExactPointOK.calls (k : Nat) (A0 : Option Addr) (c0 : Nat) (l0 : List Int) (r : Bool) (w : World) (hr0 : Kd.C (Kd.int .u8) w A0 l0.length l0) (hc0 : l0.length ≤ c0) (h : laws_FnExactPointOK.f k l0 = some r) :
    Calls Try.prog 13 #[.slice A0 l0.length c0] w fun e w' => e = .returned (.bool r) ∧ Below w.heap.size w w' := by
  have HR0 := Aside0.mk hr0
  have HC0 := Aside0.mk hc0
  clear hr0 hc0
  have HB := Aside0.mk (Below.refl w.heap.size w)
  have H : (if (l0.length : Int) > 1048576 then (some true) else ((laws_toByteS.f k l0).bind fun t108 => ((spec_PointOK.f t108).bind fun t111 => ((laws_toByteS.f k l0).bind fun t112 => ((impl_PointOK.f t112).bind fun t115 => (if (t115 != t111) = true then (some false) else ((laws_toByteS.f k l0).bind fun t116 => ((laws_eqByteS.f k t112 t116).bind fun t119 => (if t119 = true then (some true) else (some false)))))))))) = some r := h
  clear h
  by_cases c2 : (l0.length : Int) > 1048576
  · rw [if_pos c2] at H
    have c2b0 : decide (1048576 < (l0.length : Int)) = true := decide_eq_true c2
    have c2b1 : decide (1048576 < l0.length) = true := decide_eq_true (by omega)
    clear c2
    obtain rfl := Option.some.inj H
    go_enter Try.func13, Try.ntmps13
    go_wp2
    go_ret
    exact ⟨by first | rfl | (simp [errW_none, errW_some] <;> rfl) | (simp [*, errW_none, errW_some] <;> rfl), by repeat (first | (with_reducible first | exact HB.out | apply below_alloc | apply pw_below_drewN | apply below_drew1) | exact HB.out)⟩
  · rw [if_neg c2] at H
    have c2b0 : decide (1048576 < (l0.length : Int)) = false := decide_eq_false c2
    have c2b1 : decide (1048576 < l0.length) = false := decide_eq_false (by omega)
    clear c2
    replace H := Option.bind_eq_some_iff.mp H
    obtain ⟨t108, A30, H⟩ := H
    replace H : ((spec_PointOK.f t108).bind fun t111 => ((laws_toByteS.f k l0).bind fun t112 => ((impl_PointOK.f t112).bind fun t115 => (if (t115 != t111) = true then (some false) else ((laws_toByteS.f k l0).bind fun t116 => ((laws_eqByteS.f k t112 t116).bind fun t119 => (if t119 = true then (some true) else (some false)))))))) = some r := H
    have A3 := Aside0.mk A30
    clear A30
    replace H := Option.bind_eq_some_iff.mp H
    obtain ⟨t111, A40, H⟩ := H
    replace H : ((laws_toByteS.f k l0).bind fun t112 => ((impl_PointOK.f t112).bind fun t115 => (if (t115 != t111) = true then (some false) else ((laws_toByteS.f k l0).bind fun t116 => ((laws_eqByteS.f k t112 t116).bind fun t119 => (if t119 = true then (some true) else (some false))))))) = some r := H
    have A4 := Aside0.mk A40
    clear A40
    replace H := Option.bind_eq_some_iff.mp H
    obtain ⟨t112, A50, H⟩ := H
    replace H : ((impl_PointOK.f t112).bind fun t115 => (if (t115 != t111) = true then (some false) else ((laws_toByteS.f k l0).bind fun t116 => ((laws_eqByteS.f k t112 t116).bind fun t119 => (if t119 = true then (some true) else (some false)))))) = some r := H
    have A5 := Aside0.mk A50
    clear A50
    replace H := Option.bind_eq_some_iff.mp H
    obtain ⟨t115, A60, H⟩ := H
    replace H : (if (t115 != t111) = true then (some false) else ((laws_toByteS.f k l0).bind fun t116 => ((laws_eqByteS.f k t112 t116).bind fun t119 => (if t119 = true then (some true) else (some false))))) = some r := H
    have A6 := Aside0.mk A60
    clear A60
    by_cases c7 : (t115 != t111) = true
    · rw [if_pos c7] at H
      have c7b0 : (t115 != t111) = true := c7
      (try (have c7b1 : decide (t115 = t111) = false := by simpa using c7))
      (try (have c7b2 : (t115 == t111) = false := by simpa using c7))
      (try (have c7b3 : ¬ (t115 = t111) := by simpa using c7))
      clear c7
      obtain rfl := Option.some.inj H
      go_enter Try.func13, Try.ntmps13
      go_wp2_with (first | ((with_reducible refine gate_callee (f := 16) rfl ?_); refine goesL_ (some 10) rfl rfl Try.func16 (by kernel_rfl) rfl #[.slice A0 l0.length c0] rfl (by (try simp only [List.map_toArray, List.map_cons, List.map_nil]); first | done | rfl | (simp only [List.length_drop, List.length_take]; rfl)) ?_; (with_reducible refine (laws_toByteS.calls k _ _ l0 t108 _ ?side1 ?side2 A3.out).mono ?_); (case side1 => repeat (first | exact HR0.out | (with_reducible refine Kd.C_alloc ?_ _) | (with_reducible refine Kd.C_drewN ?_ _) | (with_reducible refine Kd.C_drew ?_))); (case side2 => exact HC0.out); rintro e w8 ⟨v109, rfl, ho0, hb⟩; refine ⟨_, rfl, ?_⟩; have n0_ := Aside0.mk (Kd.R_lower ho0 (below_size (by repeat (first | (with_reducible first | exact HB.out | apply below_alloc | apply pw_below_drewN | apply below_drew1) | exact HB.out)))); have n1_ := Aside0.mk (below_step (by repeat (first | (with_reducible first | exact HB.out | apply below_alloc | apply pw_below_drewN | apply below_drew1) | exact HB.out)) hb); clear HB; have HO110 := n0_; have HB := n1_; clear n0_ n1_; (try clear hb); (try clear hb2); (try clear hk); (try clear hi); (try clear ho0); obtain ⟨Ao9, co9, eo9⟩ := Kd.R_slice HO110.out; subst eo9) | ((with_reducible refine gate_callee (f := 38) rfl ?_); refine goesL_ (some 11) rfl rfl Try.func38 (by kernel_rfl) rfl #[.slice Ao9 t108.length co9] rfl (by (try simp only [List.map_toArray, List.map_cons, List.map_nil]); first | done | rfl | (simp only [List.length_drop, List.length_take]; rfl)) ?_; (with_reducible refine (spec_PointOK.calls _ _ t108 t111 _ ?side1 ?side2 A4.out).mono ?_); (case side1 => repeat (first | exact (Kd.R_reads' HO110.out).2.2 | (with_reducible refine Kd.C_alloc ?_ _) | (with_reducible refine Kd.C_drewN ?_ _) | (with_reducible refine Kd.C_drew ?_))); (case side2 => exact (Kd.R_reads' HO110.out).2.1); rintro e w10 ⟨rfl, hb⟩; refine ⟨_, rfl, ?_⟩; have n0_ := Aside0.mk (Kd.R_below (by (with_reducible repeat (first | apply Kd.R_alloc | apply Kd.R_drewN | apply Kd.R_drew)); exact HO110.out) hb); have n1_ := Aside0.mk (below_step (by repeat (first | (with_reducible first | exact HB.out | apply below_alloc | apply pw_below_drewN | apply below_drew1) | exact HB.out)) hb); clear HO110; clear HB; have HO110 := n0_; have HB := n1_; clear n0_ n1_; (try clear hb); (try clear hb2); (try clear hk); (try clear hi)) | ((with_reducible refine gate_callee (f := 16) rfl ?_); refine goesL_ (some 13) rfl rfl Try.func16 (by kernel_rfl) rfl #[.slice A0 l0.length c0] rfl (by (try simp only [List.map_toArray, List.map_cons, List.map_nil]); first | done | rfl | (simp only [List.length_drop, List.length_take]; rfl)) ?_; (with_reducible refine (laws_toByteS.calls k _ _ l0 t112 _ ?side1 ?side2 A5.out).mono ?_); (case side1 => repeat (first | exact (Kd.C_below HR0.out HB.out) | (with_reducible refine Kd.C_alloc ?_ _) | (with_reducible refine Kd.C_drewN ?_ _) | (with_reducible refine Kd.C_drew ?_))); (case side2 => exact HC0.out); rintro e w11 ⟨v113, rfl, ho0, hb⟩; refine ⟨_, rfl, ?_⟩; have n0_ := Aside0.mk (Kd.R_elder' (by (with_reducible repeat (first | apply Kd.R_alloc | apply Kd.R_drewN | apply Kd.R_drew)); exact HO110.out) (Kd.R_base ho0) hb); have n1_ := Aside0.mk (Kd.R_lower (Kd.R_new' ho0 (Kd.R_lt (by (with_reducible repeat (first | apply Kd.R_alloc | apply Kd.R_drewN | apply Kd.R_drew)); exact HO110.out))) (below_size (by repeat (first | (with_reducible first | exact HB.out | apply below_alloc | apply pw_below_drewN | apply below_drew1) | exact HB.out)))); have n2_ := Aside0.mk (below_step (by repeat (first | (with_reducible first | exact HB.out | apply below_alloc | apply pw_below_drewN | apply below_drew1) | exact HB.out)) hb); clear HO110; clear HB; have HO110 := n0_; have HO114 := n1_; have HB := n2_; clear n0_ n1_ n2_; (try clear hb); (try clear hb2); (try clear hk); (try clear hi); (try clear ho0); obtain ⟨Ao12, co12, eo12⟩ := Kd.R_slice HO114.out; subst eo12) | ((with_reducible refine gate_callee (f := 39) rfl ?_); refine goesL_ (some 15) rfl rfl Try.func39 (by kernel_rfl) rfl #[.slice Ao12 t112.length co12] rfl (by (try simp only [List.map_toArray, List.map_cons, List.map_nil]); first | done | rfl | (simp only [List.length_drop, List.length_take]; rfl)) ?_; (with_reducible refine (impl_PointOK.calls _ _ t112 t115 _ ?side1 ?side2 A6.out).mono ?_); (case side1 => repeat (first | exact (Kd.R_reads' HO114.out).2.2 | (with_reducible refine Kd.C_alloc ?_ _) | (with_reducible refine Kd.C_drewN ?_ _) | (with_reducible refine Kd.C_drew ?_))); (case side2 => exact (Kd.R_reads' HO114.out).2.1); rintro e w13 ⟨rfl, hb⟩; refine ⟨_, rfl, ?_⟩; have n0_ := Aside0.mk (Kd.R_below (by (with_reducible repeat (first | apply Kd.R_alloc | apply Kd.R_drewN | apply Kd.R_drew)); exact HO110.out) hb); have n1_ := Aside0.mk (Kd.R_below (by (with_reducible repeat (first | apply Kd.R_alloc | apply Kd.R_drewN | apply Kd.R_drew)); exact HO114.out) hb); have n2_ := Aside0.mk (below_step (by repeat (first | (with_reducible first | exact HB.out | apply below_alloc | apply pw_below_drewN | apply below_drew1) | exact HB.out)) hb); clear HO110; clear HO114; clear HB; have HO110 := n0_; have HO114 := n1_; have HB := n2_; clear n0_ n1_ n2_; (try clear hb); (try clear hb2); (try clear hk); (try clear hi)))
      go_ret
      exact ⟨by first | rfl | (simp [errW_none, errW_some] <;> rfl) | (simp [*, errW_none, errW_some] <;> rfl), by repeat (first | (with_reducible first | exact HB.out | apply below_alloc | apply pw_below_drewN | apply below_drew1) | exact HB.out)⟩
    · rw [if_neg c7] at H
      have c7b0 : (t115 != t111) = false := by simpa using c7
      (try (have c7b1 : decide (t115 = t111) = true := by simpa using c7))
      (try (have c7b2 : (t115 == t111) = true := by simpa using c7))
      clear c7
      replace H := Option.bind_eq_some_iff.mp H
      obtain ⟨t116, A140, H⟩ := H
      replace H : ((laws_eqByteS.f k t112 t116).bind fun t119 => (if t119 = true then (some true) else (some false))) = some r := H
      have A14 := Aside0.mk A140
      clear A140
      replace H := Option.bind_eq_some_iff.mp H
      obtain ⟨t119, A150, H⟩ := H
      replace H : (if t119 = true then (some true) else (some false)) = some r := H
      have A15 := Aside0.mk A150
      clear A150
      by_cases c16 : t119 = true
      · subst c16
        have H1 : (some true) = some r := by rw [if_pos rfl] at H; exact H
        clear H
        have H := H1
        clear H1
        obtain rfl := Option.some.inj H
        go_enter Try.func13, Try.ntmps13
        go_wp2_with (first | ((with_reducible refine gate_callee (f := 16) rfl ?_); refine goesL_ (some 10) rfl rfl Try.func16 (by kernel_rfl) rfl #[.slice A0 l0.length c0] rfl (by (try simp only [List.map_toArray, List.map_cons, List.map_nil]); first | done | rfl | (simp only [List.length_drop, List.length_take]; rfl)) ?_; (with_reducible refine (laws_toByteS.calls k _ _ l0 t108 _ ?side1 ?side2 A3.out).mono ?_); (case side1 => repeat (first | exact HR0.out | (with_reducible refine Kd.C_alloc ?_ _) | (with_reducible refine Kd.C_drewN ?_ _) | (with_reducible refine Kd.C_drew ?_))); (case side2 => exact HC0.out); rintro e w17 ⟨v109, rfl, ho0, hb⟩; refine ⟨_, rfl, ?_⟩; have n0_ := Aside0.mk (Kd.R_lower ho0 (below_size (by repeat (first | (with_reducible first | exact HB.out | apply below_alloc | apply pw_below_drewN | apply below_drew1) | exact HB.out)))); have n1_ := Aside0.mk (below_step (by repeat (first | (with_reducible first | exact HB.out | apply below_alloc | apply pw_below_drewN | apply below_drew1) | exact HB.out)) hb); clear HB; have HO110 := n0_; have HB := n1_; clear n0_ n1_; (try clear hb); (try clear hb2); (try clear hk); (try clear hi); (try clear ho0); obtain ⟨Ao18, co18, eo18⟩ := Kd.R_slice HO110.out; subst eo18) | ((with_reducible refine gate_callee (f := 38) rfl ?_); refine goesL_ (some 11) rfl rfl Try.func38 (by kernel_rfl) rfl #[.slice Ao18 t108.length co18] rfl (by (try simp only [List.map_toArray, List.map_cons, List.map_nil]); first | done | rfl | (simp only [List.length_drop, List.length_take]; rfl)) ?_; (with_reducible refine (spec_PointOK.calls _ _ t108 t111 _ ?side1 ?side2 A4.out).mono ?_); (case side1 => repeat (first | exact (Kd.R_reads' HO110.out).2.2 | (with_reducible refine Kd.C_alloc ?_ _) | (with_reducible refine Kd.C_drewN ?_ _) | (with_reducible refine Kd.C_drew ?_))); (case side2 => exact (Kd.R_reads' HO110.out).2.1); rintro e w19 ⟨rfl, hb⟩; refine ⟨_, rfl, ?_⟩; have n0_ := Aside0.mk (Kd.R_below (by (with_reducible repeat (first | apply Kd.R_alloc | apply Kd.R_drewN | apply Kd.R_drew)); exact HO110.out) hb); have n1_ := Aside0.mk (below_step (by repeat (first | (with_reducible first | exact HB.out | apply below_alloc | apply pw_below_drewN | apply below_drew1) | exact HB.out)) hb); clear HO110; clear HB; have HO110 := n0_; have HB := n1_; clear n0_ n1_; (try clear hb); (try clear hb2); (try clear hk); (try clear hi)) | ((with_reducible refine gate_callee (f := 16) rfl ?_); refine goesL_ (some 13) rfl rfl Try.func16 (by kernel_rfl) rfl #[.slice A0 l0.length c0] rfl (by (try simp only [List.map_toArray, List.map_cons, List.map_nil]); first | done | rfl | (simp only [List.length_drop, List.length_take]; rfl)) ?_; (with_reducible refine (laws_toByteS.calls k _ _ l0 t112 _ ?side1 ?side2 A5.out).mono ?_); (case side1 => repeat (first | exact (Kd.C_below HR0.out HB.out) | (with_reducible refine Kd.C_alloc ?_ _) | (with_reducible refine Kd.C_drewN ?_ _) | (with_reducible refine Kd.C_drew ?_))); (case side2 => exact HC0.out); rintro e w20 ⟨v113, rfl, ho0, hb⟩; refine ⟨_, rfl, ?_⟩; have n0_ := Aside0.mk (Kd.R_elder' (by (with_reducible repeat (first | apply Kd.R_alloc | apply Kd.R_drewN | apply Kd.R_drew)); exact HO110.out) (Kd.R_base ho0) hb); have n1_ := Aside0.mk (Kd.R_lower (Kd.R_new' ho0 (Kd.R_lt (by (with_reducible repeat (first | apply Kd.R_alloc | apply Kd.R_drewN | apply Kd.R_drew)); exact HO110.out))) (below_size (by repeat (first | (with_reducible first | exact HB.out | apply below_alloc | apply pw_below_drewN | apply below_drew1) | exact HB.out)))); have n2_ := Aside0.mk (below_step (by repeat (first | (with_reducible first | exact HB.out | apply below_alloc | apply pw_below_drewN | apply below_drew1) | exact HB.out)) hb); clear HO110; clear HB; have HO110 := n0_; have HO114 := n1_; have HB := n2_; clear n0_ n1_ n2_; (try clear hb); (try clear hb2); (try clear hk); (try clear hi); (try clear ho0); obtain ⟨Ao21, co21, eo21⟩ := Kd.R_slice HO114.out; subst eo21) | ((with_reducible refine gate_callee (f := 39) rfl ?_); refine goesL_ (some 15) rfl rfl Try.func39 (by kernel_rfl) rfl #[.slice Ao21 t112.length co21] rfl (by (try simp only [List.map_toArray, List.map_cons, List.map_nil]); first | done | rfl | (simp only [List.length_drop, List.length_take]; rfl)) ?_; (with_reducible refine (impl_PointOK.calls _ _ t112 t115 _ ?side1 ?side2 A6.out).mono ?_); (case side1 => repeat (first | exact (Kd.R_reads' HO114.out).2.2 | (with_reducible refine Kd.C_alloc ?_ _) | (with_reducible refine Kd.C_drewN ?_ _) | (with_reducible refine Kd.C_drew ?_))); (case side2 => exact (Kd.R_reads' HO114.out).2.1); rintro e w22 ⟨rfl, hb⟩; refine ⟨_, rfl, ?_⟩; have n0_ := Aside0.mk (Kd.R_below (by (with_reducible repeat (first | apply Kd.R_alloc | apply Kd.R_drewN | apply Kd.R_drew)); exact HO110.out) hb); have n1_ := Aside0.mk (Kd.R_below (by (with_reducible repeat (first | apply Kd.R_alloc | apply Kd.R_drewN | apply Kd.R_drew)); exact HO114.out) hb); have n2_ := Aside0.mk (below_step (by repeat (first | (with_reducible first | exact HB.out | apply below_alloc | apply pw_below_drewN | apply below_drew1) | exact HB.out)) hb); clear HO110; clear HO114; clear HB; have HO110 := n0_; have HO114 := n1_; have HB := n2_; clear n0_ n1_ n2_; (try clear hb); (try clear hb2); (try clear hk); (try clear hi)) | ((with_reducible refine gate_callee (f := 16) rfl ?_); refine goesL_ (some 21) rfl rfl Try.func16 (by kernel_rfl) rfl #[.slice A0 l0.length c0] rfl (by (try simp only [List.map_toArray, List.map_cons, List.map_nil]); first | done | rfl | (simp only [List.length_drop, List.length_take]; rfl)) ?_; (with_reducible refine (laws_toByteS.calls k _ _ l0 t116 _ ?side1 ?side2 A14.out).mono ?_); (case side1 => repeat (first | exact (Kd.C_below HR0.out HB.out) | (with_reducible refine Kd.C_alloc ?_ _) | (with_reducible refine Kd.C_drewN ?_ _) | (with_reducible refine Kd.C_drew ?_))); (case side2 => exact HC0.out); rintro e w23 ⟨v117, rfl, ho0, hb⟩; refine ⟨_, rfl, ?_⟩; have n0_ := Aside0.mk (Kd.R_elder' (by (with_reducible repeat (first | apply Kd.R_alloc | apply Kd.R_drewN | apply Kd.R_drew)); exact HO110.out) (Kd.R_base ho0) hb); have n1_ := Aside0.mk (Kd.R_elder' (by (with_reducible repeat (first | apply Kd.R_alloc | apply Kd.R_drewN | apply Kd.R_drew)); exact HO114.out) (Kd.R_base ho0) hb); have n2_ := Aside0.mk (Kd.R_lower (Kd.R_new' (Kd.R_new' ho0 (Kd.R_lt (by (with_reducible repeat (first | apply Kd.R_alloc | apply Kd.R_drewN | apply Kd.R_drew)); exact HO110.out))) (Kd.R_lt (by (with_reducible repeat (first | apply Kd.R_alloc | apply Kd.R_drewN | apply Kd.R_drew)); exact HO114.out))) (below_size (by repeat (first | (with_reducible first | exact HB.out | apply below_alloc | apply pw_below_drewN | apply below_drew1) | exact HB.out)))); have n3_ := Aside0.mk (below_step (by repeat (first | (with_reducible first | exact HB.out | apply below_alloc | apply pw_below_drewN | apply below_drew1) | exact HB.out)) hb); clear HO110; clear HO114; clear HB; have HO110 := n0_; have HO114 := n1_; have HO118 := n2_; have HB := n3_; clear n0_ n1_ n2_ n3_; (try clear hb); (try clear hb2); (try clear hk); (try clear hi); (try clear ho0); obtain ⟨Ao24, co24, eo24⟩ := Kd.R_slice HO118.out; subst eo24) | ((with_reducible refine gate_callee (f := 18) rfl ?_); refine goesL_ (some 22) rfl rfl Try.func18 (by kernel_rfl) rfl #[.slice Ao21 t112.length co21, .slice Ao24 t116.length co24] rfl (by (try simp only [List.map_toArray, List.map_cons, List.map_nil]); first | done | rfl | (simp only [List.length_drop, List.length_take]; rfl)) ?_; (with_reducible refine (laws_eqByteS.calls k _ _ t112 _ _ t116 true _ ?side1 ?side2 ?side3 ?side4 A15.out).mono ?_); (case side1 => repeat (first | exact (Kd.R_reads' HO114.out).2.2 | (with_reducible refine Kd.C_alloc ?_ _) | (with_reducible refine Kd.C_drewN ?_ _) | (with_reducible refine Kd.C_drew ?_))); (case side2 => exact (Kd.R_reads' HO114.out).2.1); (case side3 => repeat (first | exact (Kd.R_reads' HO118.out).2.2 | (with_reducible refine Kd.C_alloc ?_ _) | (with_reducible refine Kd.C_drewN ?_ _) | (with_reducible refine Kd.C_drew ?_))); (case side4 => exact (Kd.R_reads' HO118.out).2.1); rintro e w' ⟨rfl, ⟨nd, rfl⟩⟩; refine ⟨_, rfl, ?_⟩))
        go_ret
        exact ⟨by first | rfl | (simp [errW_none, errW_some] <;> rfl) | (simp [*, errW_none, errW_some] <;> rfl), by repeat (first | (with_reducible first | exact HB.out | apply below_alloc | apply pw_below_drewN | apply below_drew1) | exact HB.out)⟩
      · replace c16 := Bool.eq_false_iff.mpr c16
        subst c16
        have H1 : (some false) = some r := by rw [if_neg (show ¬ (false = true) by decide)] at H; exact H
        clear H
        have H := H1
        clear H1
        obtain rfl := Option.some.inj H
        go_enter Try.func13, Try.ntmps13
        go_wp2_with (first | ((with_reducible refine gate_callee (f := 16) rfl ?_); refine goesL_ (some 10) rfl rfl Try.func16 (by kernel_rfl) rfl #[.slice A0 l0.length c0] rfl (by (try simp only [List.map_toArray, List.map_cons, List.map_nil]); first | done | rfl | (simp only [List.length_drop, List.length_take]; rfl)) ?_; (with_reducible refine (laws_toByteS.calls k _ _ l0 t108 _ ?side1 ?side2 A3.out).mono ?_); (case side1 => repeat (first | exact HR0.out | (with_reducible refine Kd.C_alloc ?_ _) | (with_reducible refine Kd.C_drewN ?_ _) | (with_reducible refine Kd.C_drew ?_))); (case side2 => exact HC0.out); rintro e w25 ⟨v109, rfl, ho0, hb⟩; refine ⟨_, rfl, ?_⟩; have n0_ := Aside0.mk (Kd.R_lower ho0 (below_size (by repeat (first | (with_reducible first | exact HB.out | apply below_alloc | apply pw_below_drewN | apply below_drew1) | exact HB.out)))); have n1_ := Aside0.mk (below_step (by repeat (first | (with_reducible first | exact HB.out | apply below_alloc | apply pw_below_drewN | apply below_drew1) | exact HB.out)) hb); clear HB; have HO110 := n0_; have HB := n1_; clear n0_ n1_; (try clear hb); (try clear hb2); (try clear hk); (try clear hi); (try clear ho0); obtain ⟨Ao26, co26, eo26⟩ := Kd.R_slice HO110.out; subst eo26) | ((with_reducible refine gate_callee (f := 38) rfl ?_); refine goesL_ (some 11) rfl rfl Try.func38 (by kernel_rfl) rfl #[.slice Ao26 t108.length co26] rfl (by (try simp only [List.map_toArray, List.map_cons, List.map_nil]); first | done | rfl | (simp only [List.length_drop, List.length_take]; rfl)) ?_; (with_reducible refine (spec_PointOK.calls _ _ t108 t111 _ ?side1 ?side2 A4.out).mono ?_); (case side1 => repeat (first | exact (Kd.R_reads' HO110.out).2.2 | (with_reducible refine Kd.C_alloc ?_ _) | (with_reducible refine Kd.C_drewN ?_ _) | (with_reducible refine Kd.C_drew ?_))); (case side2 => exact (Kd.R_reads' HO110.out).2.1); rintro e w27 ⟨rfl, hb⟩; refine ⟨_, rfl, ?_⟩; have n0_ := Aside0.mk (Kd.R_below (by (with_reducible repeat (first | apply Kd.R_alloc | apply Kd.R_drewN | apply Kd.R_drew)); exact HO110.out) hb); have n1_ := Aside0.mk (below_step (by repeat (first | (with_reducible first | exact HB.out | apply below_alloc | apply pw_below_drewN | apply below_drew1) | exact HB.out)) hb); clear HO110; clear HB; have HO110 := n0_; have HB := n1_; clear n0_ n1_; (try clear hb); (try clear hb2); (try clear hk); (try clear hi)) | ((with_reducible refine gate_callee (f := 16) rfl ?_); refine goesL_ (some 13) rfl rfl Try.func16 (by kernel_rfl) rfl #[.slice A0 l0.length c0] rfl (by (try simp only [List.map_toArray, List.map_cons, List.map_nil]); first | done | rfl | (simp only [List.length_drop, List.length_take]; rfl)) ?_; (with_reducible refine (laws_toByteS.calls k _ _ l0 t112 _ ?side1 ?side2 A5.out).mono ?_); (case side1 => repeat (first | exact (Kd.C_below HR0.out HB.out) | (with_reducible refine Kd.C_alloc ?_ _) | (with_reducible refine Kd.C_drewN ?_ _) | (with_reducible refine Kd.C_drew ?_))); (case side2 => exact HC0.out); rintro e w28 ⟨v113, rfl, ho0, hb⟩; refine ⟨_, rfl, ?_⟩; have n0_ := Aside0.mk (Kd.R_elder' (by (with_reducible repeat (first | apply Kd.R_alloc | apply Kd.R_drewN | apply Kd.R_drew)); exact HO110.out) (Kd.R_base ho0) hb); have n1_ := Aside0.mk (Kd.R_lower (Kd.R_new' ho0 (Kd.R_lt (by (with_reducible repeat (first | apply Kd.R_alloc | apply Kd.R_drewN | apply Kd.R_drew)); exact HO110.out))) (below_size (by repeat (first | (with_reducible first | exact HB.out | apply below_alloc | apply pw_below_drewN | apply below_drew1) | exact HB.out)))); have n2_ := Aside0.mk (below_step (by repeat (first | (with_reducible first | exact HB.out | apply below_alloc | apply pw_below_drewN | apply below_drew1) | exact HB.out)) hb); clear HO110; clear HB; have HO110 := n0_; have HO114 := n1_; have HB := n2_; clear n0_ n1_ n2_; (try clear hb); (try clear hb2); (try clear hk); (try clear hi); (try clear ho0); obtain ⟨Ao29, co29, eo29⟩ := Kd.R_slice HO114.out; subst eo29) | ((with_reducible refine gate_callee (f := 39) rfl ?_); refine goesL_ (some 15) rfl rfl Try.func39 (by kernel_rfl) rfl #[.slice Ao29 t112.length co29] rfl (by (try simp only [List.map_toArray, List.map_cons, List.map_nil]); first | done | rfl | (simp only [List.length_drop, List.length_take]; rfl)) ?_; (with_reducible refine (impl_PointOK.calls _ _ t112 t115 _ ?side1 ?side2 A6.out).mono ?_); (case side1 => repeat (first | exact (Kd.R_reads' HO114.out).2.2 | (with_reducible refine Kd.C_alloc ?_ _) | (with_reducible refine Kd.C_drewN ?_ _) | (with_reducible refine Kd.C_drew ?_))); (case side2 => exact (Kd.R_reads' HO114.out).2.1); rintro e w30 ⟨rfl, hb⟩; refine ⟨_, rfl, ?_⟩; have n0_ := Aside0.mk (Kd.R_below (by (with_reducible repeat (first | apply Kd.R_alloc | apply Kd.R_drewN | apply Kd.R_drew)); exact HO110.out) hb); have n1_ := Aside0.mk (Kd.R_below (by (with_reducible repeat (first | apply Kd.R_alloc | apply Kd.R_drewN | apply Kd.R_drew)); exact HO114.out) hb); have n2_ := Aside0.mk (below_step (by repeat (first | (with_reducible first | exact HB.out | apply below_alloc | apply pw_below_drewN | apply below_drew1) | exact HB.out)) hb); clear HO110; clear HO114; clear HB; have HO110 := n0_; have HO114 := n1_; have HB := n2_; clear n0_ n1_ n2_; (try clear hb); (try clear hb2); (try clear hk); (try clear hi)) | ((with_reducible refine gate_callee (f := 16) rfl ?_); refine goesL_ (some 21) rfl rfl Try.func16 (by kernel_rfl) rfl #[.slice A0 l0.length c0] rfl (by (try simp only [List.map_toArray, List.map_cons, List.map_nil]); first | done | rfl | (simp only [List.length_drop, List.length_take]; rfl)) ?_; (with_reducible refine (laws_toByteS.calls k _ _ l0 t116 _ ?side1 ?side2 A14.out).mono ?_); (case side1 => repeat (first | exact (Kd.C_below HR0.out HB.out) | (with_reducible refine Kd.C_alloc ?_ _) | (with_reducible refine Kd.C_drewN ?_ _) | (with_reducible refine Kd.C_drew ?_))); (case side2 => exact HC0.out); rintro e w31 ⟨v117, rfl, ho0, hb⟩; refine ⟨_, rfl, ?_⟩; have n0_ := Aside0.mk (Kd.R_elder' (by (with_reducible repeat (first | apply Kd.R_alloc | apply Kd.R_drewN | apply Kd.R_drew)); exact HO110.out) (Kd.R_base ho0) hb); have n1_ := Aside0.mk (Kd.R_elder' (by (with_reducible repeat (first | apply Kd.R_alloc | apply Kd.R_drewN | apply Kd.R_drew)); exact HO114.out) (Kd.R_base ho0) hb); have n2_ := Aside0.mk (Kd.R_lower (Kd.R_new' (Kd.R_new' ho0 (Kd.R_lt (by (with_reducible repeat (first | apply Kd.R_alloc | apply Kd.R_drewN | apply Kd.R_drew)); exact HO110.out))) (Kd.R_lt (by (with_reducible repeat (first | apply Kd.R_alloc | apply Kd.R_drewN | apply Kd.R_drew)); exact HO114.out))) (below_size (by repeat (first | (with_reducible first | exact HB.out | apply below_alloc | apply pw_below_drewN | apply below_drew1) | exact HB.out)))); have n3_ := Aside0.mk (below_step (by repeat (first | (with_reducible first | exact HB.out | apply below_alloc | apply pw_below_drewN | apply below_drew1) | exact HB.out)) hb); clear HO110; clear HO114; clear HB; have HO110 := n0_; have HO114 := n1_; have HO118 := n2_; have HB := n3_; clear n0_ n1_ n2_ n3_; (try clear hb); (try clear hb2); (try clear hk); (try clear hi); (try clear ho0); obtain ⟨Ao32, co32, eo32⟩ := Kd.R_slice HO118.out; subst eo32) | ((with_reducible refine gate_callee (f := 18) rfl ?_); refine goesL_ (some 22) rfl rfl Try.func18 (by kernel_rfl) rfl #[.slice Ao29 t112.length co29, .slice Ao32 t116.length co32] rfl (by (try simp only [List.map_toArray, List.map_cons, List.map_nil]); first | done | rfl | (simp only [List.length_drop, List.length_take]; rfl)) ?_; (with_reducible refine (laws_eqByteS.calls k _ _ t112 _ _ t116 false _ ?side1 ?side2 ?side3 ?side4 A15.out).mono ?_); (case side1 => repeat (first | exact (Kd.R_reads' HO114.out).2.2 | (with_reducible refine Kd.C_alloc ?_ _) | (with_reducible refine Kd.C_drewN ?_ _) | (with_reducible refine Kd.C_drew ?_))); (case side2 => exact (Kd.R_reads' HO114.out).2.1); (case side3 => repeat (first | exact (Kd.R_reads' HO118.out).2.2 | (with_reducible refine Kd.C_alloc ?_ _) | (with_reducible refine Kd.C_drewN ?_ _) | (with_reducible refine Kd.C_drew ?_))); (case side4 => exact (Kd.R_reads' HO118.out).2.1); rintro e w' ⟨rfl, ⟨nd, rfl⟩⟩; refine ⟨_, rfl, ?_⟩))
        go_ret
        exact ⟨by first | rfl | (simp [errW_none, errW_some] <;> rfl) | (simp [*, errW_none, errW_some] <;> rfl), by repeat (first | (with_reducible first | exact HB.out | apply below_alloc | apply pw_below_drewN | apply below_drew1) | exact HB.out)⟩

/-- THE ONE PURE STATEMENT of laws_FnExactPointOK: yours. -/
def laws_FnExactPointOK.Pure : Prop := ∀ (l0 : List Int), l0.length ≤ maxLen → l0.length * 1 ≤ 140737488351232 → (∀ x ∈ l0, (Lit.int .u8 x).wf = true) → ∃ k, laws_FnExactPointOK.f k l0 = some true
theorem laws_FnExactPointOK.walk (P : laws_FnExactPointOK.Pure) (a0 : Option Addr) (len0 cap0 : Nat) (z0 : List Int) (w : World) (w0 : (a0 = none ∧ len0 = 0 ∧ cap0 = 0 ∧ z0 = []) ∨ ∃ x, a0 = some x ∧ len0 ≤ cap0 ∧ cap0 ≤ maxLen ∧ z0.length = cap0 ∧ (∀ i, i < z0.length → w.cell? (x.add i) = some (.int .u8 (z0.getD i 0))) ∧ ∀ n ∈ z0, (Lit.int .u8 n).wf = true) (y0 : len0 * 1 ≤ 140737488351232) :
    Calls Try.prog 13 #[.slice a0 len0 cap0] w fun e w' => e = .returned (.bool true) ∧ Below w.heap.size w w' := by
  obtain ⟨l0, rfl, hr0, hm0, hw0, hc0⟩ := ReadsInt.ofRowC w0
  obtain ⟨k, h⟩ := P l0 hm0 y0 hw0
  refine (laws_FnExactPointOK.calls k _ _ l0 true w (Kd.C_of_reads (d := (0 : Int)) (h1 := fun _ => rfl) hr0) hc0 h).mono ?_
  rintro e w' ⟨rfl, hd⟩
  exact ⟨rfl, hd⟩

end Go.Proofs.Ytijeackkgcnbgaa.XO
