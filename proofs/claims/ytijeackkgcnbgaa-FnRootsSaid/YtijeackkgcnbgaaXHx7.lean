-- Written by a program of this session (xp.py over the kit's printer, with functions proved by hand). Lean checks it.
import Derived.Test.YtijeackkgcnbgaaXHx0
import Derived.Test.YtijeackkgcnbgaaXHx2
import Derived.Test.YtijeackkgcnbgaaXHx3
import Derived.Test.YtijeackkgcnbgaaXHx4
import Derived.Test.YtijeackkgcnbgaaXHx5
import Derived.Test.YtijeackkgcnbgaaXHx6
namespace Go.Proofs.Ytijeackkgcnbgaa.XH
open Go.Proofs.Ytijeackkgcnbgaa.Limb Go.Proofs.Ytijeackkgcnbgaa.Arr Go.Proofs.Ytijeackkgcnbgaa.FldA Go.Proofs.Ytijeackkgcnbgaa.FldB Go.Proofs.Ytijeackkgcnbgaa.FldC Go.Proofs.Ytijeackkgcnbgaa.FldS Go.Proofs.Ytijeackkgcnbgaa.FldP Go.Proofs.Ytijeackkgcnbgaa.FldW Go.Proofs.Ytijeackkgcnbgaa.FldM Go.Proofs.Ytijeackkgcnbgaa.FldT Go.Proofs.Ytijeackkgcnbgaa.FldRoot Go.Proofs.Ytijeackkgcnbgaa.FldRoot2 Go.Proofs.Ytijeackkgcnbgaa.St Go.Proofs.Ytijeackkgcnbgaa.StOps Go.Proofs.Ytijeackkgcnbgaa.StMid Go.Proofs.Ytijeackkgcnbgaa.StEq Go.Proofs.Ytijeackkgcnbgaa.StIdx Go.Proofs.Ytijeackkgcnbgaa.StSrc
open Go.RowKit Go.Proofs.YtijeackkgcnbgaaW.PrintWords Go.Proofs.YtijeackkgcnbgaaW.PrintLast Go.Proofs.YtijeackkgcnbgaaW.PrintMore
attribute [local go_sem] max2_int min2_int max_two min_two max_three min_three max_four min_four   -- for this text's walks alone
set_option linter.unusedVariables false
set_option linter.unusedSimpArgs false

/-! ### spec_l05Root: function 72 -/
set_option maxHeartbeats 4000000 in
set_option maxRecDepth 100000 in
theorem spec_l05Root.calls (a : Nat) (w : World) (ha : a < BB) :
    Calls Try.prog 72 #[.agg (arr .i64 (fe a))] w fun e w' => ∃ c, c < BB ∧ c % PP = (if rtOk (a % PP) = true then rtV (a % PP) else 0) ∧ e = .returned (.tuple #[.agg (arr .i64 (fe c)), .bool (rtOk (a % PP))]) ∧ Below w.heap.size w w' := by
  have HPw := Aside0.mk (fun W => (show Calls Try.prog 94 #[.agg (arr .i64 (fe a)), .int .i64 254, .int .i64 15] W _ from spec_l05Pow.calls a 254 15 W ha (by decide) (by decide)))
  rw [rt0_mod a] at HPw
  have HS2 := Aside0.mk (fun W => (show Calls Try.prog 89 #[.int .i64 2] W _ from spec_l05Small.calls 2 W (by decide)))
  have HPi := Aside0.mk (fun W => (show Calls Try.prog 94 #[.agg (arr .i64 (fe 2)), .int .i64 251, .int .i64 31] W _ from spec_l05Pow.calls 2 251 31 W (by decide) (by decide) (by decide)))
  rw [im_pow] at HPi
  obtain ⟨b, hb⟩ : ∃ b, b = a % PP := ⟨_, rfl⟩
  have hbP : b < PP := by rw [hb]; exact Nat.mod_lt _ PP_pos
  obtain ⟨x, hx⟩ : ∃ x, x = rt0 b := ⟨_, rfl⟩
  obtain ⟨z, hz⟩ : ∃ z, z = rt1 b := ⟨_, rfl⟩
  rw [← hb] at HPw ⊢
  rw [← hx] at HPw
  have HMx := Aside0.mk (fun c W (hc : c < BB) (hm : c % PP = x) => (show Calls Try.prog 64 #[.agg (arr .i64 (fe c)), .agg (arr .i64 (fe c))] W fun e w' => ∃ d, d < BB ∧ d % PP = x * x % PP ∧ e = .returned (.agg (arr .i64 (fe d))) ∧ Below W.heap.size W w' from by
    have h := spec_l05Mul.calls c c W hc hc
    rw [Nat.mul_mod, hm] at h
    exact h))
  have HMz := Aside0.mk (fun c W (hc : c < BB) (hm : c % PP = z) => (show Calls Try.prog 64 #[.agg (arr .i64 (fe c)), .agg (arr .i64 (fe c))] W fun e w' => ∃ d, d < BB ∧ d % PP = z * z % PP ∧ e = .returned (.agg (arr .i64 (fe d))) ∧ Below W.heap.size W w' from by
    have h := spec_l05Mul.calls c c W hc hc
    rw [Nat.mul_mod, hm] at h
    exact h))
  have HMi := Aside0.mk (fun c ci W (hc : c < BB) (hm : c % PP = x) (hci : ci < BB) (him : ci % PP = imN) => (show Calls Try.prog 64 #[.agg (arr .i64 (fe c)), .agg (arr .i64 (fe ci))] W fun e w' => ∃ d, d < BB ∧ d % PP = x * imN % PP ∧ e = .returned (.agg (arr .i64 (fe d))) ∧ Below W.heap.size W w' from by
    have h := spec_l05Mul.calls c ci W hc hci
    rw [Nat.mul_mod, hm, him] at h
    exact h))
  have HSm := Aside0.mk (fun q c W (hc : c < BB) (hm : c % PP = q) => (show Calls Try.prog 93 #[.agg (arr .i64 (fe c)), .agg (arr .i64 (fe a))] W fun e w' => e = .returned (.bool (decide (q = b))) ∧ Below W.heap.size W w' from by
    have h := spec_l05Same.calls c a W hc ha
    rw [hm, ← hb] at h
    exact h))
  have HU := Aside0.mk (fun c W (hc : c < BB) => spec_l05Sub.calls 0 c W (by decide) hc)
  rw [show fe 0 = [0, 0, 0, 0, 0, 0, 0, 0, 0, 0, 0, 0, 0, 0, 0, 0] from by decide] at HU
  have E1 := Aside0.mk (show z = if x * x % PP = b then x else x * imN % PP by rw [hz, hx]; rfl)
  have EO := Aside0.mk (show rtOk b = decide (z * z % PP = b) by rw [hz]; rfl)
  have ER := Aside0.mk hz
  have HSx := Aside0.mk (HSm.out (x * x % PP))
  have HSz := Aside0.mk (HSm.out (z * z % PP))
  clear hx hz hbP ha hb HSm
  generalize hq : x * x % PP = q at *
  generalize hp : z * z % PP = p at *
  generalize hi : x * imN % PP = xi at *
  generalize imN = im at *
  have S := Aside0.mk (((St.start w).push rfl 40 .i64 (fe a)).push (World.size_alloc ..) 40 .i64 z16)
  by_cases h0 : q = b
  · have e1 : z = x := by rw [E1.out, if_pos h0]
    have e2 : p = q := by rw [← hp, ← hq, e1]
    have hok : rtOk b = true := by rw [EO.out, e2, decide_eq_true h0]
    rw [hok, if_pos rfl]
    rw [decide_eq_true h0] at HSx
    rw [e1] at ER
    clear HSz HMz e2 e1 hok hq hp hi h0 E1 EO HMi HPi HS2
    go_enter Try.func72, Try.ntmps72
    go_wp2_with (first
      | ((with_reducible refine gate_dst (N := 6) rfl ?_); refine ld_arr rfl 40 (.tmp 1) rfl w.heap.size rfl (S.out.blk 0 rfl) Try.underlying40 (m := 16) (by kernel_rfl) (fe_length _) ?_)
      | ((refine (HPw.out _).mono ?_); rintro e w1 ⟨c, hc, cm, rfl, hb⟩; have S1 := Aside0.mk (S.out.step hb); clear hb)
      | (refine st_arr rfl 40 (.tmp 4) (.tmp 7) rfl w1.heap.size (xs := fe c) rfl rfl (blk_new w1 (.cells (arr .i64 z16) 40)) (m := 16) (by kernel_rfl) (fe_length _) (by rw [fe_length]; rfl) ?_; intro w2 h1 h2 h4 h3; have A0 := Aside0.mk (blk_drew h1); have V0 := Aside0.mk (St.other (S1.out.alloc (.cells (arr .i64 z16) 40)) h2 h3 S1.out.size).drew; clear h1 h2 h3 h4))
    have HG := Aside0.mk S1.out.size
    generalize w1.heap.size = g at *
    clear S1 S
    go_wp2
    refine start_ (n := 6) (S := fun w' => St w [⟨40, .i64, fe a⟩, ⟨40, .i64, z16⟩] w' ∧ w'.heap[g]? = some (.cells (arr .i64 (fe c)) 40 (0, 0))) (ds := []) #[false, false, false, false, false, false] (by kernel_rfl) rfl rfl ⟨V0.out, A0.out⟩ (fun hHeld => ?_)
    refine take_ (i := 0) (N := some 8) (v := ?_) (a' := ?_) #[true, false, false, false, false, false] rfl rfl (by kernel_rfl) (fun _ _ _ h => h) (Or.inl ⟨by rfl, ?_⟩) hHeld ?_ ?_
    rotate_left
    · rintro w' ⟨s0, s1⟩
      refine (run_ld 40 (.tmp 4) (by rfl) g (by rfl) s1 Try.underlying40 (m := 16) (by kernel_rfl) (fe_length _)).trans ?_; with_reducible rfl
    rotate_left
    · simp only [Act.put, OpenRow.s1, OpenRow.s2, OpenRow.s3, i64_w, i32_w]; rfl
    refine take_ (i := 1) (N := some 9) (v := ?_) (a' := ?_) #[true, true, false, false, false, false] rfl rfl (by kernel_rfl) (fun _ _ _ h => h) (Or.inl ⟨by rfl, ?_⟩) hHeld ?_ ?_
    rotate_left
    · rintro w' ⟨s0, s1⟩
      refine (run_ld 40 (.tmp 4) (by rfl) g (by rfl) s1 Try.underlying40 (m := 16) (by kernel_rfl) (fe_length _)).trans ?_; with_reducible rfl
    rotate_left
    · simp only [Act.put, OpenRow.s1, OpenRow.s2, OpenRow.s3, i64_w, i32_w]; rfl
    refine take_ (i := 3) (N := some 11) (v := ?_) (a' := ?_) #[true, true, false, true, false, false] rfl rfl (by kernel_rfl) (fun _ _ _ h => h) (Or.inl ⟨by rfl, ?_⟩) hHeld ?_ ?_
    rotate_left
    · rintro w' ⟨s0, s1⟩
      refine (run_ld 40 (.tmp 1) (by rfl) w.heap.size (by rfl) (s0.blk 0 rfl) Try.underlying40 (m := 16) (by kernel_rfl) (fe_length _)).trans ?_; with_reducible rfl
    rotate_left
    · simp only [Act.put, OpenRow.s1, OpenRow.s2, OpenRow.s3, i64_w, i32_w]; rfl
    refine one_ (i := 2) (N := some 10) #[true, true, true, true, false, false] rfl rfl (by kernel_rfl) (by decide) (fun K hK => ?_)
    refine goes_ Try.func64 (by kernel_rfl) rfl #[.agg (arr .i64 (fe c)), .agg (arr .i64 (fe c))] (by rfl) rfl rfl (by simp only [List.map_toArray, List.map_cons, List.map_nil] <;> rfl) ?_
    with_reducible refine (HMx.out c _ hc cm).mono ?_
    rintro e w3 ⟨d, hd, dm, rfl, hb⟩
    refine ⟨_, rfl, ?_⟩
    have V1 := Aside0.mk (V0.out.step hb)
    have A1 := Aside0.mk (blk_below A0.out hb)
    clear hb
    refine hK.out _ _ ⟨V1.out, A1.out⟩ (fun hHeld => ?_)
    clear hK K
    refine norm_ (a' := ?_) ?_ ?_
    rotate_left
    · show Act.put _ (some 10) _ = _
      simp only [Act.put, OpenRow.s1, OpenRow.s2, OpenRow.s3, i64_w, i32_w]
      rfl
    refine one_ (i := 4) (N := some 12) #[true, true, true, true, true, false] rfl rfl (by kernel_rfl) (by decide) (fun K hK => ?_)
    refine goes_ Try.func93 (by kernel_rfl) rfl #[.agg (arr .i64 (fe d)), .agg (arr .i64 (fe a))] (by rfl) rfl rfl (by simp only [List.map_toArray, List.map_cons, List.map_nil] <;> rfl) ?_
    with_reducible refine (HSx.out d _ hd dm).mono ?_
    rintro e w3 ⟨rfl, hb⟩
    refine ⟨_, rfl, ?_⟩
    have V2 := Aside0.mk (V1.out.step hb)
    have A2 := Aside0.mk (blk_below A1.out hb)
    clear hb
    refine hK.out _ _ ⟨V2.out, A2.out⟩ (fun hHeld => ?_)
    clear hK K
    refine norm_ (a' := ?_) ?_ ?_
    rotate_left
    · show Act.put _ (some 12) _ = _
      simp only [Act.put, OpenRow.s1, OpenRow.s2, OpenRow.s3, i64_w, i32_w]
      rfl
    refine pure_ (i := 5) (N := some 13) (v := ?_) (a' := ?_) #[true, true, true, true, true, true] rfl rfl (by kernel_rfl) (fun _ _ _ h => h) (Or.inl ⟨by rfl, ?_⟩) ?_ ?_
    rotate_left
    · intro w'; go_simp; with_reducible rfl
    rotate_left
    · simp only [Act.put, OpenRow.s1, OpenRow.s2, OpenRow.s3, i64_w, i32_w]; rfl
    refine done_ (by kernel_rfl) ?_

    go_wp2
    have V3 := Aside0.mk V2.out.drew
    have A3 := Aside0.mk (blk_drew A2.out)

    refine start_ (n := 6) (S := fun w' => St w [⟨40, .i64, fe a⟩, ⟨40, .i64, z16⟩] w' ∧ w'.heap[g]? = some (.cells (arr .i64 (fe c)) 40 (0, 0))) (ds := []) #[false, false, false, false, false, false] (by kernel_rfl) rfl rfl ⟨V3.out, A3.out⟩ (fun hHeld => ?_)
    refine take_ (i := 0) (N := some 19) (v := ?_) (a' := ?_) #[true, false, false, false, false, false] rfl rfl (by kernel_rfl) (fun _ _ _ h => h) (Or.inl ⟨by rfl, ?_⟩) hHeld ?_ ?_
    rotate_left
    · rintro w' ⟨s0, s1⟩
      refine (run_ld 40 (.tmp 4) (by rfl) g (by rfl) s1 Try.underlying40 (m := 16) (by kernel_rfl) (fe_length _)).trans ?_; with_reducible rfl
    rotate_left
    · simp only [Act.put, OpenRow.s1, OpenRow.s2, OpenRow.s3, i64_w, i32_w]; rfl
    refine take_ (i := 1) (N := some 20) (v := ?_) (a' := ?_) #[true, true, false, false, false, false] rfl rfl (by kernel_rfl) (fun _ _ _ h => h) (Or.inl ⟨by rfl, ?_⟩) hHeld ?_ ?_
    rotate_left
    · rintro w' ⟨s0, s1⟩
      refine (run_ld 40 (.tmp 4) (by rfl) g (by rfl) s1 Try.underlying40 (m := 16) (by kernel_rfl) (fe_length _)).trans ?_; with_reducible rfl
    rotate_left
    · simp only [Act.put, OpenRow.s1, OpenRow.s2, OpenRow.s3, i64_w, i32_w]; rfl
    refine take_ (i := 3) (N := some 22) (v := ?_) (a' := ?_) #[true, true, false, true, false, false] rfl rfl (by kernel_rfl) (fun _ _ _ h => h) (Or.inl ⟨by rfl, ?_⟩) hHeld ?_ ?_
    rotate_left
    · rintro w' ⟨s0, s1⟩
      refine (run_ld 40 (.tmp 1) (by rfl) w.heap.size (by rfl) (s0.blk 0 rfl) Try.underlying40 (m := 16) (by kernel_rfl) (fe_length _)).trans ?_; with_reducible rfl
    rotate_left
    · simp only [Act.put, OpenRow.s1, OpenRow.s2, OpenRow.s3, i64_w, i32_w]; rfl
    refine one_ (i := 2) (N := some 21) #[true, true, true, true, false, false] rfl rfl (by kernel_rfl) (by decide) (fun K hK => ?_)
    refine goes_ Try.func64 (by kernel_rfl) rfl #[.agg (arr .i64 (fe c)), .agg (arr .i64 (fe c))] (by rfl) rfl rfl (by simp only [List.map_toArray, List.map_cons, List.map_nil] <;> rfl) ?_
    with_reducible refine (HMx.out c _ hc cm).mono ?_
    rintro e w3 ⟨d, hd, dm, rfl, hb⟩
    refine ⟨_, rfl, ?_⟩
    have V4 := Aside0.mk (V3.out.step hb)
    have A4 := Aside0.mk (blk_below A3.out hb)
    clear hb
    refine hK.out _ _ ⟨V4.out, A4.out⟩ (fun hHeld => ?_)
    clear hK K
    refine norm_ (a' := ?_) ?_ ?_
    rotate_left
    · show Act.put _ (some 21) _ = _
      simp only [Act.put, OpenRow.s1, OpenRow.s2, OpenRow.s3, i64_w, i32_w]
      rfl
    refine one_ (i := 4) (N := some 23) #[true, true, true, true, true, false] rfl rfl (by kernel_rfl) (by decide) (fun K hK => ?_)
    refine goes_ Try.func93 (by kernel_rfl) rfl #[.agg (arr .i64 (fe d)), .agg (arr .i64 (fe a))] (by rfl) rfl rfl (by simp only [List.map_toArray, List.map_cons, List.map_nil] <;> rfl) ?_
    with_reducible refine (HSx.out d _ hd dm).mono ?_
    rintro e w3 ⟨rfl, hb⟩
    refine ⟨_, rfl, ?_⟩
    have V5 := Aside0.mk (V4.out.step hb)
    have A5 := Aside0.mk (blk_below A4.out hb)
    clear hb
    refine hK.out _ _ ⟨V5.out, A5.out⟩ (fun hHeld => ?_)
    clear hK K
    refine norm_ (a' := ?_) ?_ ?_
    rotate_left
    · show Act.put _ (some 23) _ = _
      simp only [Act.put, OpenRow.s1, OpenRow.s2, OpenRow.s3, i64_w, i32_w]
      rfl
    refine pure_ (i := 5) (N := some 24) (v := ?_) (a' := ?_) #[true, true, true, true, true, true] rfl rfl (by kernel_rfl) (fun _ _ _ h => h) (Or.inl ⟨by rfl, ?_⟩) ?_ ?_
    rotate_left
    · intro w'; go_simp; with_reducible rfl
    rotate_left
    · simp only [Act.put, OpenRow.s1, OpenRow.s2, OpenRow.s3, i64_w, i32_w]; rfl
    refine done_ (by kernel_rfl) ?_

    have hz8 := limbs_getD 256 32 x 0 (by omega)
    rw [Nat.pow_zero, Nat.div_one] at hz8
    obtain ⟨v0, hv0⟩ : ∃ v0 : Int, v0 = ((x % 256 : Nat) : Int) := ⟨_, rfl⟩
    have HV0 := Aside0.mk (show rd (limbs 256 32 x) (0 : Int) = v0 by rw [hv0, ← hz8]; simp [rd])
    rcases Nat.mod_two_eq_zero_or_one x with ho | ho
    · have q1 : v0 % 2 = 0 := by omega
      have q2 : v0.tmod 2 = 0 := by rw [Int.tmod_eq_emod_of_nonneg (by omega)]; exact q1
      have EV := Aside0.mk (show rtV b = x by unfold rtV; rw [← ER.out, if_neg (by omega)])
      clear hv0 ho hz8
      go_wp2_with (first
        | ((with_reducible refine gate_dst (N := 26) rfl ?_); refine ld_arr rfl 40 (.tmp 4) rfl g rfl A5.out Try.underlying40 (m := 16) (by kernel_rfl) (fe_length _) ?_)
        | ((with_reducible refine (bytes_fe c _ hc).mono ?_); rintro e w8 ⟨vb, rfl, hR, hb⟩; rw [cm] at hR; obtain ⟨gv, cv, ev, _, _, _⟩ := Kd.R_form hR (by rw [limbs_length]; omega); rw [limbs_length] at ev; subst ev; obtain ⟨hx0, _⟩ := Kd.R_celln 0 hR (0 : Int) (by omega) (by omega); have hx1 : w8.cell? ⟨gv, 0, none⟩ = some (.int .u8 v0) := hx0.trans (congrArg some (congrArg (Value.int .u8) HV0.out)); clear hx0; have V8 := Aside0.mk (V5.out.step hb); have A8 := Aside0.mk (blk_below A5.out hb); clear hb hR)
        | ((with_reducible refine gate_dst (N := 35) rfl ?_); refine ld_arr rfl 40 (.tmp 4) rfl g rfl A8.out Try.underlying40 (m := 16) (by kernel_rfl) (fe_length _) ?_)
        | (refine st_arr rfl 40 (.tmp 2) (.tmp 35) rfl (w.heap.size + 1) (xs := fe c) rfl rfl (V8.out.blk 1 rfl) (m := 16) (by kernel_rfl) (fe_length _) (by rw [fe_length]; rfl) ?_; intro w' h1 h2 h4 h3; have H1 := Aside0.mk h1; have V9 := Aside0.mk (V8.out.row 1 rfl h1 h2 h3); clear h1 h2 h3 h4))
      exact bodyPost_ret (results_ct Try.results72 _ _ (w.heap.size + 1) 40 _ (0, 0) _ rfl H1.out Try.underlying40 rfl (by rw [arr_size, fe_length]; kernel_rfl)) rfl ⟨c, hc, by rw [EV.out, cm], rfl, V9.out.below⟩
    · have q1 : v0 % 2 = 1 := by omega
      have q2 : v0.tmod 2 = 1 := by rw [Int.tmod_eq_emod_of_nonneg (by omega)]; exact q1
      have EV := Aside0.mk (show rtV b = (PP - x) % PP by unfold rtV; rw [← ER.out, if_pos ho])
      have HN := Aside0.mk (fun W => (show Calls Try.prog 53 #[.agg #[.int .i64 0, .int .i64 0, .int .i64 0, .int .i64 0, .int .i64 0, .int .i64 0, .int .i64 0, .int .i64 0, .int .i64 0, .int .i64 0, .int .i64 0, .int .i64 0, .int .i64 0, .int .i64 0, .int .i64 0, .int .i64 0], .agg (arr .i64 (fe c))] W _ from HU.out c W hc))
      clear hv0 ho hz8
      go_wp2_with (first
        | ((with_reducible refine gate_dst (N := 26) rfl ?_); refine ld_arr rfl 40 (.tmp 4) rfl g rfl A5.out Try.underlying40 (m := 16) (by kernel_rfl) (fe_length _) ?_)
        | ((with_reducible refine (bytes_fe c _ hc).mono ?_); rintro e w8 ⟨vb, rfl, hR, hb⟩; rw [cm] at hR; obtain ⟨gv, cv, ev, _, _, _⟩ := Kd.R_form hR (by rw [limbs_length]; omega); rw [limbs_length] at ev; subst ev; obtain ⟨hx0, _⟩ := Kd.R_celln 0 hR (0 : Int) (by omega) (by omega); have hx1 : w8.cell? ⟨gv, 0, none⟩ = some (.int .u8 v0) := hx0.trans (congrArg some (congrArg (Value.int .u8) HV0.out)); clear hx0; have V8 := Aside0.mk (V5.out.step hb); have A8 := Aside0.mk (blk_below A5.out hb); clear hb hR)
        | ((with_reducible refine gate_dst (N := 33) rfl ?_); refine ld_arr rfl 40 (.tmp 4) rfl g rfl A8.out Try.underlying40 (m := 16) (by kernel_rfl) (fe_length _) ?_)
        | ((refine (HN.out _).mono ?_); rintro e w9 ⟨d9, hd9, dm9, rfl, hb⟩; have V9 := Aside0.mk (V8.out.step hb); have A9 := Aside0.mk (blk_below A8.out hb); clear hb)
        | (refine st_arr rfl 40 (.tmp 4) (.tmp 34) rfl g (xs := fe d9) rfl rfl A9.out (m := 16) (by kernel_rfl) (fe_length _) (by rw [fe_length, fe_length]) ?_; intro w7 h1 h2 h4 h3; have A10 := Aside0.mk h1; have V10 := Aside0.mk (St.other V9.out h2 h3 HG.out); clear h1 h2 h3 h4)
        | ((with_reducible refine gate_dst (N := 35) rfl ?_); refine ld_arr rfl 40 (.tmp 4) rfl g rfl A10.out Try.underlying40 (m := 16) (by kernel_rfl) (fe_length _) ?_)
        | (refine st_arr rfl 40 (.tmp 2) (.tmp 35) rfl (w.heap.size + 1) (xs := fe d9) rfl rfl (V10.out.blk 1 rfl) (m := 16) (by kernel_rfl) (fe_length _) (by rw [fe_length]; rfl) ?_; intro w' h1 h2 h4 h3; have H1 := Aside0.mk h1; have V11 := Aside0.mk (V10.out.row 1 rfl h1 h2 h3); clear h1 h2 h3 h4))
      exact bodyPost_ret (results_ct Try.results72 _ _ (w.heap.size + 1) 40 _ (0, 0) _ rfl H1.out Try.underlying40 rfl (by rw [arr_size, fe_length]; kernel_rfl)) rfl ⟨d9, hd9, by rw [EV.out, neg_mod2 d9 c dm9, cm], rfl, V11.out.below⟩
  · rw [if_neg h0] at E1
    have e1 := E1.out
    subst e1
    rw [decide_eq_false h0] at HSx
    by_cases h1 : p = b
    · have hok : rtOk b = true := by rw [EO.out, decide_eq_true h1]
      rw [hok, if_pos rfl]
      rw [decide_eq_true h1] at HSz
      clear hok hq hp hi h0 h1 E1 EO
      go_enter Try.func72, Try.ntmps72
      go_wp2_with (first
        | ((with_reducible refine gate_dst (N := 6) rfl ?_); refine ld_arr rfl 40 (.tmp 1) rfl w.heap.size rfl (S.out.blk 0 rfl) Try.underlying40 (m := 16) (by kernel_rfl) (fe_length _) ?_)
        | ((refine (HPw.out _).mono ?_); rintro e w1 ⟨c, hc, cm, rfl, hb⟩; have S1 := Aside0.mk (S.out.step hb); clear hb)
        | (refine st_arr rfl 40 (.tmp 4) (.tmp 7) rfl w1.heap.size (xs := fe c) rfl rfl (blk_new w1 (.cells (arr .i64 z16) 40)) (m := 16) (by kernel_rfl) (fe_length _) (by rw [fe_length]; rfl) ?_; intro w2 h1 h2 h4 h3; have A0 := Aside0.mk (blk_drew h1); have V0 := Aside0.mk (St.other (S1.out.alloc (.cells (arr .i64 z16) 40)) h2 h3 S1.out.size).drew; clear h1 h2 h3 h4))
      have HG := Aside0.mk S1.out.size
      generalize w1.heap.size = g at *
      clear S1 S
      go_wp2
      refine start_ (n := 6) (S := fun w' => St w [⟨40, .i64, fe a⟩, ⟨40, .i64, z16⟩] w' ∧ w'.heap[g]? = some (.cells (arr .i64 (fe c)) 40 (0, 0))) (ds := []) #[false, false, false, false, false, false] (by kernel_rfl) rfl rfl ⟨V0.out, A0.out⟩ (fun hHeld => ?_)
      refine take_ (i := 0) (N := some 8) (v := ?_) (a' := ?_) #[true, false, false, false, false, false] rfl rfl (by kernel_rfl) (fun _ _ _ h => h) (Or.inl ⟨by rfl, ?_⟩) hHeld ?_ ?_
      rotate_left
      · rintro w' ⟨s0, s1⟩
        refine (run_ld 40 (.tmp 4) (by rfl) g (by rfl) s1 Try.underlying40 (m := 16) (by kernel_rfl) (fe_length _)).trans ?_; with_reducible rfl
      rotate_left
      · simp only [Act.put, OpenRow.s1, OpenRow.s2, OpenRow.s3, i64_w, i32_w]; rfl
      refine take_ (i := 1) (N := some 9) (v := ?_) (a' := ?_) #[true, true, false, false, false, false] rfl rfl (by kernel_rfl) (fun _ _ _ h => h) (Or.inl ⟨by rfl, ?_⟩) hHeld ?_ ?_
      rotate_left
      · rintro w' ⟨s0, s1⟩
        refine (run_ld 40 (.tmp 4) (by rfl) g (by rfl) s1 Try.underlying40 (m := 16) (by kernel_rfl) (fe_length _)).trans ?_; with_reducible rfl
      rotate_left
      · simp only [Act.put, OpenRow.s1, OpenRow.s2, OpenRow.s3, i64_w, i32_w]; rfl
      refine take_ (i := 3) (N := some 11) (v := ?_) (a' := ?_) #[true, true, false, true, false, false] rfl rfl (by kernel_rfl) (fun _ _ _ h => h) (Or.inl ⟨by rfl, ?_⟩) hHeld ?_ ?_
      rotate_left
      · rintro w' ⟨s0, s1⟩
        refine (run_ld 40 (.tmp 1) (by rfl) w.heap.size (by rfl) (s0.blk 0 rfl) Try.underlying40 (m := 16) (by kernel_rfl) (fe_length _)).trans ?_; with_reducible rfl
      rotate_left
      · simp only [Act.put, OpenRow.s1, OpenRow.s2, OpenRow.s3, i64_w, i32_w]; rfl
      refine one_ (i := 2) (N := some 10) #[true, true, true, true, false, false] rfl rfl (by kernel_rfl) (by decide) (fun K hK => ?_)
      refine goes_ Try.func64 (by kernel_rfl) rfl #[.agg (arr .i64 (fe c)), .agg (arr .i64 (fe c))] (by rfl) rfl rfl (by simp only [List.map_toArray, List.map_cons, List.map_nil] <;> rfl) ?_
      with_reducible refine (HMx.out c _ hc cm).mono ?_
      rintro e w3 ⟨d, hd, dm, rfl, hb⟩
      refine ⟨_, rfl, ?_⟩
      have V1 := Aside0.mk (V0.out.step hb)
      have A1 := Aside0.mk (blk_below A0.out hb)
      clear hb
      refine hK.out _ _ ⟨V1.out, A1.out⟩ (fun hHeld => ?_)
      clear hK K
      refine norm_ (a' := ?_) ?_ ?_
      rotate_left
      · show Act.put _ (some 10) _ = _
        simp only [Act.put, OpenRow.s1, OpenRow.s2, OpenRow.s3, i64_w, i32_w]
        rfl
      refine one_ (i := 4) (N := some 12) #[true, true, true, true, true, false] rfl rfl (by kernel_rfl) (by decide) (fun K hK => ?_)
      refine goes_ Try.func93 (by kernel_rfl) rfl #[.agg (arr .i64 (fe d)), .agg (arr .i64 (fe a))] (by rfl) rfl rfl (by simp only [List.map_toArray, List.map_cons, List.map_nil] <;> rfl) ?_
      with_reducible refine (HSx.out d _ hd dm).mono ?_
      rintro e w3 ⟨rfl, hb⟩
      refine ⟨_, rfl, ?_⟩
      have V2 := Aside0.mk (V1.out.step hb)
      have A2 := Aside0.mk (blk_below A1.out hb)
      clear hb
      refine hK.out _ _ ⟨V2.out, A2.out⟩ (fun hHeld => ?_)
      clear hK K
      refine norm_ (a' := ?_) ?_ ?_
      rotate_left
      · show Act.put _ (some 12) _ = _
        simp only [Act.put, OpenRow.s1, OpenRow.s2, OpenRow.s3, i64_w, i32_w]
        rfl
      refine pure_ (i := 5) (N := some 13) (v := ?_) (a' := ?_) #[true, true, true, true, true, true] rfl rfl (by kernel_rfl) (fun _ _ _ h => h) (Or.inl ⟨by rfl, ?_⟩) ?_ ?_
      rotate_left
      · intro w'; go_simp; with_reducible rfl
      rotate_left
      · simp only [Act.put, OpenRow.s1, OpenRow.s2, OpenRow.s3, i64_w, i32_w]; rfl
      refine done_ (by kernel_rfl) ?_

      go_wp2_with (first
        | ((refine (HS2.out _).mono ?_); rintro e w4 ⟨rfl, hb⟩; have V3 := Aside0.mk (V2.out.step hb); have A3 := Aside0.mk (blk_below A2.out hb); clear hb)
        | ((refine (HPi.out _).mono ?_); rintro e w5 ⟨ci, hci, cim, rfl, hb⟩; have V4 := Aside0.mk (V3.out.step hb); have A4 := Aside0.mk (blk_below A3.out hb); clear hb)
        | (refine st_arr rfl 40 (.tmp 5) (.tmp 15) rfl w5.heap.size (xs := fe ci) rfl rfl (blk_new w5 (.cells (arr .i64 z16) 40)) (m := 16) (by kernel_rfl) (fe_length _) (by rw [fe_length]; rfl) ?_; intro w6 h1 h2 h4 h3; have G5 := Aside0.mk h1; have V5 := Aside0.mk (St.other (V4.out.alloc (.cells (arr .i64 z16) 40)) h2 h3 V4.out.size); have A5 := Aside0.mk ((h2 _ (ne_of_blk A4.out)).trans (blk_alloc A4.out _)); clear h1 h2 h3 h4)
        | ((with_reducible refine gate_dst (N := 16) rfl ?_); refine ld_arr rfl 40 (.tmp 4) rfl g rfl A5.out Try.underlying40 (m := 16) (by kernel_rfl) (fe_length _) ?_)
        | ((with_reducible refine gate_dst (N := 17) rfl ?_); refine ld_arr rfl 40 (.tmp 5) rfl w5.heap.size rfl G5.out Try.underlying40 (m := 16) (by kernel_rfl) (fe_length _) ?_)
        | ((with_reducible refine (HMi.out c ci _ hc cm hci cim).mono ?_); rintro e w7 ⟨cz, hcz, czm, rfl, hb⟩; have V6 := Aside0.mk (V5.out.step hb); have A6 := Aside0.mk (blk_below A5.out hb); clear hb)
        | (refine st_arr rfl 40 (.tmp 4) (.tmp 18) rfl g (xs := fe cz) rfl rfl A6.out (m := 16) (by kernel_rfl) (fe_length _) (by rw [fe_length, fe_length]) ?_; intro w7 h1 h2 h4 h3; have A7 := Aside0.mk h1; have V7 := Aside0.mk (St.other V6.out h2 h3 HG.out); clear h1 h2 h3 h4))
      have V8 := Aside0.mk V7.out.drew
      have A8 := Aside0.mk (blk_drew A7.out)

      refine start_ (n := 6) (S := fun w' => St w [⟨40, .i64, fe a⟩, ⟨40, .i64, z16⟩] w' ∧ w'.heap[g]? = some (.cells (arr .i64 (fe cz)) 40 (0, 0))) (ds := []) #[false, false, false, false, false, false] (by kernel_rfl) rfl rfl ⟨V8.out, A8.out⟩ (fun hHeld => ?_)
      refine take_ (i := 0) (N := some 19) (v := ?_) (a' := ?_) #[true, false, false, false, false, false] rfl rfl (by kernel_rfl) (fun _ _ _ h => h) (Or.inl ⟨by rfl, ?_⟩) hHeld ?_ ?_
      rotate_left
      · rintro w' ⟨s0, s1⟩
        refine (run_ld 40 (.tmp 4) (by rfl) g (by rfl) s1 Try.underlying40 (m := 16) (by kernel_rfl) (fe_length _)).trans ?_; with_reducible rfl
      rotate_left
      · simp only [Act.put, OpenRow.s1, OpenRow.s2, OpenRow.s3, i64_w, i32_w]; rfl
      refine take_ (i := 1) (N := some 20) (v := ?_) (a' := ?_) #[true, true, false, false, false, false] rfl rfl (by kernel_rfl) (fun _ _ _ h => h) (Or.inl ⟨by rfl, ?_⟩) hHeld ?_ ?_
      rotate_left
      · rintro w' ⟨s0, s1⟩
        refine (run_ld 40 (.tmp 4) (by rfl) g (by rfl) s1 Try.underlying40 (m := 16) (by kernel_rfl) (fe_length _)).trans ?_; with_reducible rfl
      rotate_left
      · simp only [Act.put, OpenRow.s1, OpenRow.s2, OpenRow.s3, i64_w, i32_w]; rfl
      refine take_ (i := 3) (N := some 22) (v := ?_) (a' := ?_) #[true, true, false, true, false, false] rfl rfl (by kernel_rfl) (fun _ _ _ h => h) (Or.inl ⟨by rfl, ?_⟩) hHeld ?_ ?_
      rotate_left
      · rintro w' ⟨s0, s1⟩
        refine (run_ld 40 (.tmp 1) (by rfl) w.heap.size (by rfl) (s0.blk 0 rfl) Try.underlying40 (m := 16) (by kernel_rfl) (fe_length _)).trans ?_; with_reducible rfl
      rotate_left
      · simp only [Act.put, OpenRow.s1, OpenRow.s2, OpenRow.s3, i64_w, i32_w]; rfl
      refine one_ (i := 2) (N := some 21) #[true, true, true, true, false, false] rfl rfl (by kernel_rfl) (by decide) (fun K hK => ?_)
      refine goes_ Try.func64 (by kernel_rfl) rfl #[.agg (arr .i64 (fe cz)), .agg (arr .i64 (fe cz))] (by rfl) rfl rfl (by simp only [List.map_toArray, List.map_cons, List.map_nil] <;> rfl) ?_
      with_reducible refine (HMz.out cz _ hcz czm).mono ?_
      rintro e w3 ⟨d5, hd5, d5m, rfl, hb⟩
      refine ⟨_, rfl, ?_⟩
      have V9 := Aside0.mk (V8.out.step hb)
      have A9 := Aside0.mk (blk_below A8.out hb)
      clear hb
      refine hK.out _ _ ⟨V9.out, A9.out⟩ (fun hHeld => ?_)
      clear hK K
      refine norm_ (a' := ?_) ?_ ?_
      rotate_left
      · show Act.put _ (some 21) _ = _
        simp only [Act.put, OpenRow.s1, OpenRow.s2, OpenRow.s3, i64_w, i32_w]
        rfl
      refine one_ (i := 4) (N := some 23) #[true, true, true, true, true, false] rfl rfl (by kernel_rfl) (by decide) (fun K hK => ?_)
      refine goes_ Try.func93 (by kernel_rfl) rfl #[.agg (arr .i64 (fe d5)), .agg (arr .i64 (fe a))] (by rfl) rfl rfl (by simp only [List.map_toArray, List.map_cons, List.map_nil] <;> rfl) ?_
      with_reducible refine (HSz.out d5 _ hd5 d5m).mono ?_
      rintro e w3 ⟨rfl, hb⟩
      refine ⟨_, rfl, ?_⟩
      have V10 := Aside0.mk (V9.out.step hb)
      have A10 := Aside0.mk (blk_below A9.out hb)
      clear hb
      refine hK.out _ _ ⟨V10.out, A10.out⟩ (fun hHeld => ?_)
      clear hK K
      refine norm_ (a' := ?_) ?_ ?_
      rotate_left
      · show Act.put _ (some 23) _ = _
        simp only [Act.put, OpenRow.s1, OpenRow.s2, OpenRow.s3, i64_w, i32_w]
        rfl
      refine pure_ (i := 5) (N := some 24) (v := ?_) (a' := ?_) #[true, true, true, true, true, true] rfl rfl (by kernel_rfl) (fun _ _ _ h => h) (Or.inl ⟨by rfl, ?_⟩) ?_ ?_
      rotate_left
      · intro w'; go_simp; with_reducible rfl
      rotate_left
      · simp only [Act.put, OpenRow.s1, OpenRow.s2, OpenRow.s3, i64_w, i32_w]; rfl
      refine done_ (by kernel_rfl) ?_

      have hz8 := limbs_getD 256 32 z 0 (by omega)
      rw [Nat.pow_zero, Nat.div_one] at hz8
      obtain ⟨v0, hv0⟩ : ∃ v0 : Int, v0 = ((z % 256 : Nat) : Int) := ⟨_, rfl⟩
      have HV0 := Aside0.mk (show rd (limbs 256 32 z) (0 : Int) = v0 by rw [hv0, ← hz8]; simp [rd])
      rcases Nat.mod_two_eq_zero_or_one z with ho | ho
      · have q1 : v0 % 2 = 0 := by omega
        have q2 : v0.tmod 2 = 0 := by rw [Int.tmod_eq_emod_of_nonneg (by omega)]; exact q1
        have EV := Aside0.mk (show rtV b = z by unfold rtV; rw [← ER.out, if_neg (by omega)])
        clear hv0 ho hz8
        go_wp2_with (first
          | ((with_reducible refine gate_dst (N := 26) rfl ?_); refine ld_arr rfl 40 (.tmp 4) rfl g rfl A10.out Try.underlying40 (m := 16) (by kernel_rfl) (fe_length _) ?_)
          | ((with_reducible refine (bytes_fe cz _ hcz).mono ?_); rintro e w8 ⟨vb, rfl, hR, hb⟩; rw [czm] at hR; obtain ⟨gv, cv, ev, _, _, _⟩ := Kd.R_form hR (by rw [limbs_length]; omega); rw [limbs_length] at ev; subst ev; obtain ⟨hx0, _⟩ := Kd.R_celln 0 hR (0 : Int) (by omega) (by omega); have hx1 : w8.cell? ⟨gv, 0, none⟩ = some (.int .u8 v0) := hx0.trans (congrArg some (congrArg (Value.int .u8) HV0.out)); clear hx0; have V8 := Aside0.mk (V10.out.step hb); have A8 := Aside0.mk (blk_below A10.out hb); clear hb hR)
          | ((with_reducible refine gate_dst (N := 35) rfl ?_); refine ld_arr rfl 40 (.tmp 4) rfl g rfl A8.out Try.underlying40 (m := 16) (by kernel_rfl) (fe_length _) ?_)
          | (refine st_arr rfl 40 (.tmp 2) (.tmp 35) rfl (w.heap.size + 1) (xs := fe cz) rfl rfl (V8.out.blk 1 rfl) (m := 16) (by kernel_rfl) (fe_length _) (by rw [fe_length]; rfl) ?_; intro w' h1 h2 h4 h3; have H1 := Aside0.mk h1; have V9 := Aside0.mk (V8.out.row 1 rfl h1 h2 h3); clear h1 h2 h3 h4))
        exact bodyPost_ret (results_ct Try.results72 _ _ (w.heap.size + 1) 40 _ (0, 0) _ rfl H1.out Try.underlying40 rfl (by rw [arr_size, fe_length]; kernel_rfl)) rfl ⟨cz, hcz, by rw [EV.out, czm], rfl, V9.out.below⟩
      · have q1 : v0 % 2 = 1 := by omega
        have q2 : v0.tmod 2 = 1 := by rw [Int.tmod_eq_emod_of_nonneg (by omega)]; exact q1
        have EV := Aside0.mk (show rtV b = (PP - z) % PP by unfold rtV; rw [← ER.out, if_pos ho])
        have HN := Aside0.mk (fun W => (show Calls Try.prog 53 #[.agg #[.int .i64 0, .int .i64 0, .int .i64 0, .int .i64 0, .int .i64 0, .int .i64 0, .int .i64 0, .int .i64 0, .int .i64 0, .int .i64 0, .int .i64 0, .int .i64 0, .int .i64 0, .int .i64 0, .int .i64 0, .int .i64 0], .agg (arr .i64 (fe cz))] W _ from HU.out cz W hcz))
        clear hv0 ho hz8
        go_wp2_with (first
          | ((with_reducible refine gate_dst (N := 26) rfl ?_); refine ld_arr rfl 40 (.tmp 4) rfl g rfl A10.out Try.underlying40 (m := 16) (by kernel_rfl) (fe_length _) ?_)
          | ((with_reducible refine (bytes_fe cz _ hcz).mono ?_); rintro e w8 ⟨vb, rfl, hR, hb⟩; rw [czm] at hR; obtain ⟨gv, cv, ev, _, _, _⟩ := Kd.R_form hR (by rw [limbs_length]; omega); rw [limbs_length] at ev; subst ev; obtain ⟨hx0, _⟩ := Kd.R_celln 0 hR (0 : Int) (by omega) (by omega); have hx1 : w8.cell? ⟨gv, 0, none⟩ = some (.int .u8 v0) := hx0.trans (congrArg some (congrArg (Value.int .u8) HV0.out)); clear hx0; have V8 := Aside0.mk (V10.out.step hb); have A8 := Aside0.mk (blk_below A10.out hb); clear hb hR)
          | ((with_reducible refine gate_dst (N := 33) rfl ?_); refine ld_arr rfl 40 (.tmp 4) rfl g rfl A8.out Try.underlying40 (m := 16) (by kernel_rfl) (fe_length _) ?_)
          | ((refine (HN.out _).mono ?_); rintro e w9 ⟨d9, hd9, dm9, rfl, hb⟩; have V9 := Aside0.mk (V8.out.step hb); have A9 := Aside0.mk (blk_below A8.out hb); clear hb)
          | (refine st_arr rfl 40 (.tmp 4) (.tmp 34) rfl g (xs := fe d9) rfl rfl A9.out (m := 16) (by kernel_rfl) (fe_length _) (by rw [fe_length, fe_length]) ?_; intro w7 h1 h2 h4 h3; have A10 := Aside0.mk h1; have V10 := Aside0.mk (St.other V9.out h2 h3 HG.out); clear h1 h2 h3 h4)
          | ((with_reducible refine gate_dst (N := 35) rfl ?_); refine ld_arr rfl 40 (.tmp 4) rfl g rfl A10.out Try.underlying40 (m := 16) (by kernel_rfl) (fe_length _) ?_)
          | (refine st_arr rfl 40 (.tmp 2) (.tmp 35) rfl (w.heap.size + 1) (xs := fe d9) rfl rfl (V10.out.blk 1 rfl) (m := 16) (by kernel_rfl) (fe_length _) (by rw [fe_length]; rfl) ?_; intro w' h1 h2 h4 h3; have H1 := Aside0.mk h1; have V11 := Aside0.mk (V10.out.row 1 rfl h1 h2 h3); clear h1 h2 h3 h4))
        exact bodyPost_ret (results_ct Try.results72 _ _ (w.heap.size + 1) 40 _ (0, 0) _ rfl H1.out Try.underlying40 rfl (by rw [arr_size, fe_length]; kernel_rfl)) rfl ⟨d9, hd9, by rw [EV.out, neg_mod2 d9 cz dm9, czm], rfl, V11.out.below⟩
    · have hok : rtOk b = false := by rw [EO.out, decide_eq_false h1]
      rw [hok, if_neg (by decide)]
      rw [decide_eq_false h1] at HSz
      have f0 : fe 0 = [0, 0, 0, 0, 0, 0, 0, 0, 0, 0, 0, 0, 0, 0, 0, 0] := by decide
      clear hok hq hp hi h0 h1 E1 EO HU
      go_enter Try.func72, Try.ntmps72
      go_wp2_with (first
        | ((with_reducible refine gate_dst (N := 6) rfl ?_); refine ld_arr rfl 40 (.tmp 1) rfl w.heap.size rfl (S.out.blk 0 rfl) Try.underlying40 (m := 16) (by kernel_rfl) (fe_length _) ?_)
        | ((refine (HPw.out _).mono ?_); rintro e w1 ⟨c, hc, cm, rfl, hb⟩; have S1 := Aside0.mk (S.out.step hb); clear hb)
        | (refine st_arr rfl 40 (.tmp 4) (.tmp 7) rfl w1.heap.size (xs := fe c) rfl rfl (blk_new w1 (.cells (arr .i64 z16) 40)) (m := 16) (by kernel_rfl) (fe_length _) (by rw [fe_length]; rfl) ?_; intro w2 h1 h2 h4 h3; have A0 := Aside0.mk (blk_drew h1); have V0 := Aside0.mk (St.other (S1.out.alloc (.cells (arr .i64 z16) 40)) h2 h3 S1.out.size).drew; clear h1 h2 h3 h4))
      have HG := Aside0.mk S1.out.size
      generalize w1.heap.size = g at *
      clear S1 S
      go_wp2
      refine start_ (n := 6) (S := fun w' => St w [⟨40, .i64, fe a⟩, ⟨40, .i64, z16⟩] w' ∧ w'.heap[g]? = some (.cells (arr .i64 (fe c)) 40 (0, 0))) (ds := []) #[false, false, false, false, false, false] (by kernel_rfl) rfl rfl ⟨V0.out, A0.out⟩ (fun hHeld => ?_)
      refine take_ (i := 0) (N := some 8) (v := ?_) (a' := ?_) #[true, false, false, false, false, false] rfl rfl (by kernel_rfl) (fun _ _ _ h => h) (Or.inl ⟨by rfl, ?_⟩) hHeld ?_ ?_
      rotate_left
      · rintro w' ⟨s0, s1⟩
        refine (run_ld 40 (.tmp 4) (by rfl) g (by rfl) s1 Try.underlying40 (m := 16) (by kernel_rfl) (fe_length _)).trans ?_; with_reducible rfl
      rotate_left
      · simp only [Act.put, OpenRow.s1, OpenRow.s2, OpenRow.s3, i64_w, i32_w]; rfl
      refine take_ (i := 1) (N := some 9) (v := ?_) (a' := ?_) #[true, true, false, false, false, false] rfl rfl (by kernel_rfl) (fun _ _ _ h => h) (Or.inl ⟨by rfl, ?_⟩) hHeld ?_ ?_
      rotate_left
      · rintro w' ⟨s0, s1⟩
        refine (run_ld 40 (.tmp 4) (by rfl) g (by rfl) s1 Try.underlying40 (m := 16) (by kernel_rfl) (fe_length _)).trans ?_; with_reducible rfl
      rotate_left
      · simp only [Act.put, OpenRow.s1, OpenRow.s2, OpenRow.s3, i64_w, i32_w]; rfl
      refine take_ (i := 3) (N := some 11) (v := ?_) (a' := ?_) #[true, true, false, true, false, false] rfl rfl (by kernel_rfl) (fun _ _ _ h => h) (Or.inl ⟨by rfl, ?_⟩) hHeld ?_ ?_
      rotate_left
      · rintro w' ⟨s0, s1⟩
        refine (run_ld 40 (.tmp 1) (by rfl) w.heap.size (by rfl) (s0.blk 0 rfl) Try.underlying40 (m := 16) (by kernel_rfl) (fe_length _)).trans ?_; with_reducible rfl
      rotate_left
      · simp only [Act.put, OpenRow.s1, OpenRow.s2, OpenRow.s3, i64_w, i32_w]; rfl
      refine one_ (i := 2) (N := some 10) #[true, true, true, true, false, false] rfl rfl (by kernel_rfl) (by decide) (fun K hK => ?_)
      refine goes_ Try.func64 (by kernel_rfl) rfl #[.agg (arr .i64 (fe c)), .agg (arr .i64 (fe c))] (by rfl) rfl rfl (by simp only [List.map_toArray, List.map_cons, List.map_nil] <;> rfl) ?_
      with_reducible refine (HMx.out c _ hc cm).mono ?_
      rintro e w3 ⟨d, hd, dm, rfl, hb⟩
      refine ⟨_, rfl, ?_⟩
      have V1 := Aside0.mk (V0.out.step hb)
      have A1 := Aside0.mk (blk_below A0.out hb)
      clear hb
      refine hK.out _ _ ⟨V1.out, A1.out⟩ (fun hHeld => ?_)
      clear hK K
      refine norm_ (a' := ?_) ?_ ?_
      rotate_left
      · show Act.put _ (some 10) _ = _
        simp only [Act.put, OpenRow.s1, OpenRow.s2, OpenRow.s3, i64_w, i32_w]
        rfl
      refine one_ (i := 4) (N := some 12) #[true, true, true, true, true, false] rfl rfl (by kernel_rfl) (by decide) (fun K hK => ?_)
      refine goes_ Try.func93 (by kernel_rfl) rfl #[.agg (arr .i64 (fe d)), .agg (arr .i64 (fe a))] (by rfl) rfl rfl (by simp only [List.map_toArray, List.map_cons, List.map_nil] <;> rfl) ?_
      with_reducible refine (HSx.out d _ hd dm).mono ?_
      rintro e w3 ⟨rfl, hb⟩
      refine ⟨_, rfl, ?_⟩
      have V2 := Aside0.mk (V1.out.step hb)
      have A2 := Aside0.mk (blk_below A1.out hb)
      clear hb
      refine hK.out _ _ ⟨V2.out, A2.out⟩ (fun hHeld => ?_)
      clear hK K
      refine norm_ (a' := ?_) ?_ ?_
      rotate_left
      · show Act.put _ (some 12) _ = _
        simp only [Act.put, OpenRow.s1, OpenRow.s2, OpenRow.s3, i64_w, i32_w]
        rfl
      refine pure_ (i := 5) (N := some 13) (v := ?_) (a' := ?_) #[true, true, true, true, true, true] rfl rfl (by kernel_rfl) (fun _ _ _ h => h) (Or.inl ⟨by rfl, ?_⟩) ?_ ?_
      rotate_left
      · intro w'; go_simp; with_reducible rfl
      rotate_left
      · simp only [Act.put, OpenRow.s1, OpenRow.s2, OpenRow.s3, i64_w, i32_w]; rfl
      refine done_ (by kernel_rfl) ?_

      go_wp2_with (first
        | ((refine (HS2.out _).mono ?_); rintro e w4 ⟨rfl, hb⟩; have V3 := Aside0.mk (V2.out.step hb); have A3 := Aside0.mk (blk_below A2.out hb); clear hb)
        | ((refine (HPi.out _).mono ?_); rintro e w5 ⟨ci, hci, cim, rfl, hb⟩; have V4 := Aside0.mk (V3.out.step hb); have A4 := Aside0.mk (blk_below A3.out hb); clear hb)
        | (refine st_arr rfl 40 (.tmp 5) (.tmp 15) rfl w5.heap.size (xs := fe ci) rfl rfl (blk_new w5 (.cells (arr .i64 z16) 40)) (m := 16) (by kernel_rfl) (fe_length _) (by rw [fe_length]; rfl) ?_; intro w6 h1 h2 h4 h3; have G5 := Aside0.mk h1; have V5 := Aside0.mk (St.other (V4.out.alloc (.cells (arr .i64 z16) 40)) h2 h3 V4.out.size); have A5 := Aside0.mk ((h2 _ (ne_of_blk A4.out)).trans (blk_alloc A4.out _)); clear h1 h2 h3 h4)
        | ((with_reducible refine gate_dst (N := 16) rfl ?_); refine ld_arr rfl 40 (.tmp 4) rfl g rfl A5.out Try.underlying40 (m := 16) (by kernel_rfl) (fe_length _) ?_)
        | ((with_reducible refine gate_dst (N := 17) rfl ?_); refine ld_arr rfl 40 (.tmp 5) rfl w5.heap.size rfl G5.out Try.underlying40 (m := 16) (by kernel_rfl) (fe_length _) ?_)
        | ((with_reducible refine (HMi.out c ci _ hc cm hci cim).mono ?_); rintro e w7 ⟨cz, hcz, czm, rfl, hb⟩; have V6 := Aside0.mk (V5.out.step hb); have A6 := Aside0.mk (blk_below A5.out hb); clear hb)
        | (refine st_arr rfl 40 (.tmp 4) (.tmp 18) rfl g (xs := fe cz) rfl rfl A6.out (m := 16) (by kernel_rfl) (fe_length _) (by rw [fe_length, fe_length]) ?_; intro w7 h1 h2 h4 h3; have A7 := Aside0.mk h1; have V7 := Aside0.mk (St.other V6.out h2 h3 HG.out); clear h1 h2 h3 h4))
      have V8 := Aside0.mk V7.out.drew
      have A8 := Aside0.mk (blk_drew A7.out)

      refine start_ (n := 6) (S := fun w' => St w [⟨40, .i64, fe a⟩, ⟨40, .i64, z16⟩] w' ∧ w'.heap[g]? = some (.cells (arr .i64 (fe cz)) 40 (0, 0))) (ds := []) #[false, false, false, false, false, false] (by kernel_rfl) rfl rfl ⟨V8.out, A8.out⟩ (fun hHeld => ?_)
      refine take_ (i := 0) (N := some 19) (v := ?_) (a' := ?_) #[true, false, false, false, false, false] rfl rfl (by kernel_rfl) (fun _ _ _ h => h) (Or.inl ⟨by rfl, ?_⟩) hHeld ?_ ?_
      rotate_left
      · rintro w' ⟨s0, s1⟩
        refine (run_ld 40 (.tmp 4) (by rfl) g (by rfl) s1 Try.underlying40 (m := 16) (by kernel_rfl) (fe_length _)).trans ?_; with_reducible rfl
      rotate_left
      · simp only [Act.put, OpenRow.s1, OpenRow.s2, OpenRow.s3, i64_w, i32_w]; rfl
      refine take_ (i := 1) (N := some 20) (v := ?_) (a' := ?_) #[true, true, false, false, false, false] rfl rfl (by kernel_rfl) (fun _ _ _ h => h) (Or.inl ⟨by rfl, ?_⟩) hHeld ?_ ?_
      rotate_left
      · rintro w' ⟨s0, s1⟩
        refine (run_ld 40 (.tmp 4) (by rfl) g (by rfl) s1 Try.underlying40 (m := 16) (by kernel_rfl) (fe_length _)).trans ?_; with_reducible rfl
      rotate_left
      · simp only [Act.put, OpenRow.s1, OpenRow.s2, OpenRow.s3, i64_w, i32_w]; rfl
      refine take_ (i := 3) (N := some 22) (v := ?_) (a' := ?_) #[true, true, false, true, false, false] rfl rfl (by kernel_rfl) (fun _ _ _ h => h) (Or.inl ⟨by rfl, ?_⟩) hHeld ?_ ?_
      rotate_left
      · rintro w' ⟨s0, s1⟩
        refine (run_ld 40 (.tmp 1) (by rfl) w.heap.size (by rfl) (s0.blk 0 rfl) Try.underlying40 (m := 16) (by kernel_rfl) (fe_length _)).trans ?_; with_reducible rfl
      rotate_left
      · simp only [Act.put, OpenRow.s1, OpenRow.s2, OpenRow.s3, i64_w, i32_w]; rfl
      refine one_ (i := 2) (N := some 21) #[true, true, true, true, false, false] rfl rfl (by kernel_rfl) (by decide) (fun K hK => ?_)
      refine goes_ Try.func64 (by kernel_rfl) rfl #[.agg (arr .i64 (fe cz)), .agg (arr .i64 (fe cz))] (by rfl) rfl rfl (by simp only [List.map_toArray, List.map_cons, List.map_nil] <;> rfl) ?_
      with_reducible refine (HMz.out cz _ hcz czm).mono ?_
      rintro e w3 ⟨d5, hd5, d5m, rfl, hb⟩
      refine ⟨_, rfl, ?_⟩
      have V9 := Aside0.mk (V8.out.step hb)
      have A9 := Aside0.mk (blk_below A8.out hb)
      clear hb
      refine hK.out _ _ ⟨V9.out, A9.out⟩ (fun hHeld => ?_)
      clear hK K
      refine norm_ (a' := ?_) ?_ ?_
      rotate_left
      · show Act.put _ (some 21) _ = _
        simp only [Act.put, OpenRow.s1, OpenRow.s2, OpenRow.s3, i64_w, i32_w]
        rfl
      refine one_ (i := 4) (N := some 23) #[true, true, true, true, true, false] rfl rfl (by kernel_rfl) (by decide) (fun K hK => ?_)
      refine goes_ Try.func93 (by kernel_rfl) rfl #[.agg (arr .i64 (fe d5)), .agg (arr .i64 (fe a))] (by rfl) rfl rfl (by simp only [List.map_toArray, List.map_cons, List.map_nil] <;> rfl) ?_
      with_reducible refine (HSz.out d5 _ hd5 d5m).mono ?_
      rintro e w3 ⟨rfl, hb⟩
      refine ⟨_, rfl, ?_⟩
      have V10 := Aside0.mk (V9.out.step hb)
      have A10 := Aside0.mk (blk_below A9.out hb)
      clear hb
      refine hK.out _ _ ⟨V10.out, A10.out⟩ (fun hHeld => ?_)
      clear hK K
      refine norm_ (a' := ?_) ?_ ?_
      rotate_left
      · show Act.put _ (some 23) _ = _
        simp only [Act.put, OpenRow.s1, OpenRow.s2, OpenRow.s3, i64_w, i32_w]
        rfl
      refine pure_ (i := 5) (N := some 24) (v := ?_) (a' := ?_) #[true, true, true, true, true, true] rfl rfl (by kernel_rfl) (fun _ _ _ h => h) (Or.inl ⟨by rfl, ?_⟩) ?_ ?_
      rotate_left
      · intro w'; go_simp; with_reducible rfl
      rotate_left
      · simp only [Act.put, OpenRow.s1, OpenRow.s2, OpenRow.s3, i64_w, i32_w]; rfl
      refine done_ (by kernel_rfl) ?_

      go_wp2_with (first
        | (refine st_arr rfl 40 (.tmp 2) (.tmp 25) rfl (w.heap.size + 1) (xs := [0, 0, 0, 0, 0, 0, 0, 0, 0, 0, 0, 0, 0, 0, 0, 0]) rfl rfl (V10.out.blk 1 rfl) (m := 16) (by kernel_rfl) rfl rfl ?_; intro w' h1 h2 h4 h3; have H1 := Aside0.mk h1; have V11 := Aside0.mk (V10.out.row 1 rfl h1 h2 h3); clear h1 h2 h3 h4))
      exact bodyPost_ret (results_ct Try.results72 _ _ (w.heap.size + 1) 40 _ (0, 0) _ rfl H1.out Try.underlying40 rfl (by kernel_rfl)) rfl ⟨0, by decide, by decide, by rw [f0]; rfl, V11.out.below⟩


/-! ### spec_FieldRoot: function 36 -/
def spec_FieldRoot.f (l0 : List Int) : Option (List Int × Int) := if okE l0 then (if rtOk (bval l0) then some (limbs 256 32 (rtV (bval l0)), 0) else some ([], 5)) else none
set_option maxHeartbeats 1000000 in
set_option maxRecDepth 100000 in
theorem spec_FieldRoot.calls (A0 : Option Addr) (c0 : Nat) (l0 : List Int) (r1 : List Int) (r2 : Int) (w : World) (hr0 : Kd.C (Kd.int .u8) w A0 l0.length l0) (hc0 : l0.length ≤ c0) (h : spec_FieldRoot.f l0 = some (r1, r2)) :
    Calls Try.prog 36 #[.slice A0 l0.length c0] w fun e w' => ∃ v0_ : Value, e = .returned (.tuple #[v0_, .int .i64 r2]) ∧ Kd.R (Kd.int .u8) 5 w' w.heap.size (fun _ => True) v0_ r1 ∧ Below w.heap.size w w' := by
  unfold spec_FieldRoot.f at h
  by_cases ho : okE l0 = true
  · rw [if_pos ho] at h
    obtain ⟨o0, k0, e0, p0, i0⟩ := okE_facts ho
    have HI0 := Aside0.mk (spec_l05Is.calls A0 c0 l0 true w hr0 hc0 (by unfold spec_l05Is.f; rw [if_pos o0, i0]))
    have HX := Aside0.mk (fun W (hb : Below w.heap.size w W) => spec_l05Of.calls A0 c0 l0 W (Kd.C_below hr0 hb) e0 k0)
    rw [ofS_fe l0 k0 e0] at HX
    have HR := Aside0.mk (fun W => spec_l05Root.calls (bval l0) W (Nat.lt_trans p0 (by decide)))
    rw [Nat.mod_eq_of_lt p0] at HR
    have hV := rtV_lt (bval l0)
    clear ho k0 p0 hr0 hc0 e0 o0 i0
    have B0 := Aside0.mk (Below.refl w.heap.size w)
    generalize bval l0 = x at *
    by_cases hz : rtOk x = true
    · rw [if_pos hz] at h
      simp only [Option.some.injEq, Prod.mk.injEq] at h
      obtain ⟨rfl, rfl⟩ := h
      rw [hz, if_pos rfl] at HR
      clear hz
      generalize rtV x = r at *
      go_enter Try.func36, Try.ntmps36
      go_wp2_with (first
        | ((with_reducible refine (HI0.out).mono ?_); rintro e w1 ⟨rfl, hb⟩; have B1 := Aside0.mk (below_step B0.out hb); clear hb)
        | ((with_reducible refine (HX.out _ B1.out).mono ?_); rintro e w2 ⟨rfl, hb⟩; have B2 := Aside0.mk (below_step B1.out hb); clear hb)
        | ((with_reducible refine (HR.out _).mono ?_); rintro e w3 ⟨c, hc, cm, rfl, hb⟩; have B3 := Aside0.mk (below_step B2.out hb); clear hb)
        | (refine st_arr rfl 40 (.tmp 4) (.tmp 14) rfl w3.heap.size (xs := fe c) rfl rfl (blk_new w3 (.cells (arr .i64 z16) 40)) (m := 16) (by kernel_rfl) (fe_length _) (by rw [fe_length]; rfl) ?_; intro w4 h1 h2 h4 h3; have G4 := Aside0.mk h1; have B4 := Aside0.mk (h3 _ _ (below_alloc B3.out _) B3.out.size); clear h1 h2 h3 h4)
        | ((with_reducible refine gate_dst (N := 19) rfl ?_); refine ld_arr rfl 40 (.tmp 4) rfl w3.heap.size rfl G4.out Try.underlying40 (m := 16) (by kernel_rfl) (fe_length _) ?_)
        | ((with_reducible refine (bytes_fe c _ hc).mono ?_); rintro e w5 ⟨v, rfl, hR, hb⟩; rw [cm] at hR; have HRR := Aside0.mk (Kd.R_lower hR B4.out.size); have B5 := Aside0.mk (below_step B4.out hb); clear hb hR))
      go_ret2
      exact ⟨_, rfl, HRR.out, B5.out⟩
    · rw [if_neg hz] at h
      simp only [Option.some.injEq, Prod.mk.injEq] at h
      obtain ⟨rfl, rfl⟩ := h
      rw [if_neg hz, Bool.eq_false_iff.mpr hz] at HR
      clear hz
      go_enter Try.func36, Try.ntmps36
      go_wp2_with (first
        | ((with_reducible refine (HI0.out).mono ?_); rintro e w1 ⟨rfl, hb⟩; have B1 := Aside0.mk (below_step B0.out hb); clear hb)
        | ((with_reducible refine (HX.out _ B1.out).mono ?_); rintro e w2 ⟨rfl, hb⟩; have B2 := Aside0.mk (below_step B1.out hb); clear hb)
        | ((with_reducible refine (HR.out _).mono ?_); rintro e w3 ⟨c, hc, cm, rfl, hb⟩; have B3 := Aside0.mk (below_step B2.out hb); clear hb)
        | (refine st_arr rfl 40 (.tmp 4) (.tmp 14) rfl w3.heap.size (xs := fe c) rfl rfl (blk_new w3 (.cells (arr .i64 z16) 40)) (m := 16) (by kernel_rfl) (fe_length _) (by rw [fe_length]; rfl) ?_; intro w4 h1 h2 h4 h3; have G4 := Aside0.mk h1; have B4 := Aside0.mk (h3 _ _ (below_alloc B3.out _) B3.out.size); clear h1 h2 h3 h4)
        | ((with_reducible refine gate_dst (N := 18) rfl ?_); refine Kd.R_lit (Kd.int .u8) _ 5 ?hg (N := 18) ?hd (xs := ([] : List Int)) (inner := []) (ok := fun _ => True) (okp := fun _ => True) ?hr ?hp (fun _ hk => hk) trivial (Below.refl _ _) (Nat.le_refl _) (by simp) ?_; (case hd => rfl); (case hg => rfl); (case hr => first | (go_simp; done) | (go_simp; rfl)); (case hp => exact (Reps.none _ _)); intro v139 w5 ho4 hb hg_ hnew_; clear hg_ hnew_; have HRR := Aside0.mk (Kd.R_lower ho4 B4.out.size); have B5 := Aside0.mk (below_step B4.out hb); clear ho4 hb))
      go_ret2
      exact ⟨_, rfl, HRR.out, B5.out⟩
  · rw [if_neg ho] at h; cases h


/-! ### impl_element_isOdd: function 91 -/
theorem num_odd (x : Nat) : bits .and .u64 ((num x).getD 0 0) 1 = ((x % 2 : Nat) : Int) := by
  have h := num_and x 0 (by omega)
  simpa using h
set_option maxHeartbeats 1000000 in
set_option maxRecDepth 100000 in
theorem impl_element_isOdd.calls (x : Nat) (w : World) :
    Calls Try.prog 91 #[.agg (arr .u64 (num x))] w fun e w' => e = .returned (.bool (decide (x % 2 = 1))) ∧ Below w.heap.size w w' := by
  have hb := num_odd x
  have S := Aside0.mk ((St.start w).push rfl 44 .u64 (num x))
  have c0 := S.out.cell 0 rfl 0 (by rw [num_length]; omega)
  rw [Nat.add_zero] at c0
  generalize (num x).getD 0 0 = v at *
  rcases Nat.mod_two_eq_zero_or_one x with h | h
  · rw [h] at hb
    rw [decide_eq_false (by omega)]
    have hb0 : bits .and .u64 v 1 = 0 := hb
    clear hb h
    go_enter Try.func91, Try.ntmps91
    go_wp2
    go_ret
    exact ⟨rfl, S.out.below⟩
  · rw [h] at hb
    rw [decide_eq_true h]
    have hb0 : bits .and .u64 v 1 = 1 := hb
    clear hb h
    go_enter Try.func91, Try.ntmps91
    go_wp2
    go_ret
    exact ⟨rfl, S.out.below⟩


/-! ### impl_element_power: function 96 -/
set_option maxHeartbeats 1000000 in
set_option maxRecDepth 100000 in
theorem impl_element_power.calls (a n : Nat) (w : World) (ha : a < BB) (hn : n < P64 ^ 4) :
    Calls Try.prog 96 #[.agg (arr .u64 (num a)), .agg (arr .u64 (num n))] w fun e w' => e = .returned (.agg (arr .u64 (num (a ^ n % PP)))) ∧ Below w.heap.size w w' := by
  have hPB : PP < BB := by decide
  have H0 := Aside0.mk (show a ^ (n / 2 ^ 256) % PP = 1 by rw [wide_top0 n 4 256 hn rfl, Nat.pow_zero]; decide)
  have LN := Aside0.mk (num_length n)
  have HTT := Aside0.mk (fun x y W (hx : x < PP) (hy : y < BB) => impl_element_times.calls x y W (Nat.lt_trans hx hPB) hy)
  have HPB := Aside0.mk hPB
  have HA := Aside0.mk ha
  clear hPB ha hn
  have S := Aside0.mk ((((St.start w).push rfl 44 .u64 (num a)).push (World.size_alloc ..) 36 .u64 (num n)).push (by rw [World.size_alloc, World.size_alloc]; rfl) 44 .u64 z4)
  have S0 := Aside0.mk (S.out.push (by rw [World.size_alloc, World.size_alloc, World.size_alloc]; rfl) 44 .u64 z4)
  go_enter Try.func96, Try.ntmps96
  go_wp2_with (first
    | (refine st_arr rfl 44 (.tmp 5) (.tmp 7) rfl (w.heap.size + 3) (xs := [1, 0, 0, 0]) rfl rfl (S0.out.blk 3 rfl) (m := 4) (by kernel_rfl) rfl rfl ?_; intro w1 h1 h2 h4 h3; have S1 := Aside0.mk (S0.out.row 3 rfl h1 h2 h3); clear h1 h2 h3 h4))
  go_loopg [6] 257 (fun gg s6 wr => ∃ k : Nat, k ≤ 256 ∧ k ≤ gg ∧ s6 = .int .i64 ((k : Int) - 1) ∧ Aside0 (St w [⟨44, .u64, num a⟩, ⟨36, .u64, num n⟩, ⟨44, .u64, z4⟩, ⟨44, .u64, num (a ^ (n / 2 ^ k) % PP)⟩] wr))
  case atStart => exact ⟨256, Nat.le_refl _, by omega, rfl, by rw [H0.out, ← num_small 1 (by decide)]; exact S1⟩
  case round =>
    obtain ⟨k, hk, hg, rfl, S2⟩ := hrel
    rcases Nat.eq_zero_or_pos k with h0 | h0
    · subst h0
      have e0 : ((0 : Nat) : Int) - 1 = -1 := rfl
      rw [e0]
      rw [Nat.pow_zero, Nat.div_one] at S2
      go_wp2_with (first
        | ((with_reducible refine gate_dst (N := 27) rfl ?_); refine ld_arr rfl 44 (.tmp 5) rfl (w.heap.size + 3) rfl (S2.out.blk 3 rfl) Try.underlying44 (m := 4) (by kernel_rfl) (num_length _) ?_)
        | (refine st_arr rfl 44 (.tmp 4) (.tmp 27) rfl (w.heap.size + 2) (xs := num (a ^ n % PP)) rfl rfl (S2.out.blk 2 rfl) (m := 4) (by kernel_rfl) (num_length _) (by rw [num_length]; rfl) ?_; intro w' h1 h2 h4 h3; have H1 := Aside0.mk h1; have S3 := Aside0.mk (S2.out.row 2 rfl h1 h2 h3); clear h1 h2 h3 h4))
      exact bodyPost_ret (results_cell_row Try.results96 _ _ (w.heap.size + 2) 44 _ (0, 0) _ rfl H1.out Try.underlying44 rfl (by rw [arr_size, num_length]; kernel_rfl)) rfl ⟨rfl, S3.out.below⟩
    · obtain ⟨i, rfl⟩ : ∃ i, k = i + 1 := ⟨k - 1, by omega⟩
      have e0 : (((i + 1 : Nat)) : Int) - 1 = (i : Int) := by omega
      rw [e0]
      have hi0 : (i : Int) ≥ 0 := by omega
      have hi5 : i < 256 := by omega
      have hbit := num_and n i hi5
      obtain ⟨b, hb⟩ : ∃ b, b = n / 2 ^ i % 2 := ⟨_, rfl⟩
      rw [← hb] at hbit
      obtain ⟨x, hx⟩ : ∃ x, x = a ^ (n / 2 ^ (i + 1)) % PP := ⟨_, rfl⟩
      have hxP : x < PP := by rw [hx]; exact Nat.mod_lt _ PP_pos
      have hxm : x % PP = a ^ (n / 2 ^ (i + 1)) % PP := by rw [hx, Nat.mod_mod]
      rw [← hx] at S2
      obtain ⟨y, hy⟩ : ∃ y, y = x * x % PP := ⟨_, rfl⟩
      have hyP : y < PP := by rw [hy]; exact Nat.mod_lt _ PP_pos
      have HM1 := Aside0.mk (fun W => HTT.out x x W hxP (Nat.lt_trans hxP HPB.out))
      rw [← hy] at HM1
      have HM2 := Aside0.mk (fun W => HTT.out y a W hyP HA.out)
      obtain ⟨j, hj⟩ : ∃ j : Nat, j = i / 64 := ⟨_, rfl⟩
      obtain ⟨q, hq⟩ : ∃ q : Nat, q = i % 64 := ⟨_, rfl⟩
      have hj1 : (i : Int) / 64 = (j : Int) := by omega
      have hj3 : (i : Int).tdiv 64 = (j : Int) := by rw [Int.tdiv_eq_ediv_of_nonneg (by omega)]; omega
      have hq1 : (i : Int) % 64 = (q : Int) := by omega
      have hq2 : (i : Int).tmod 64 = (q : Int) := by rw [Int.tmod_eq_emod_of_nonneg (by omega)]; omega
      have j8 : (j : Int) < 4 := by omega
      have q63 : (q : Int) < 64 := by omega
      have j8n : j < 4 := by omega
      have q63n : q < 64 := by omega
      have m63 : min q 64 = q := by omega
      have wj : IntKind.i64.wrap (j : Int) = (j : Int) := by rw [IntKind.wrap_i64]; omega
      have wq : IntKind.i64.wrap (q : Int) = (q : Int) := by rw [IntKind.wrap_i64]; omega
      have r1 := getD_range (num_ok n) j (by rw [num_length]; omega)
      have r2 := r1.1
      clear r1
      rw [← hj, ← hq] at hbit
      have c1 := fun W (h : St w [⟨44, .u64, num a⟩, ⟨36, .u64, num n⟩, ⟨44, .u64, z4⟩, ⟨44, .u64, num (y)⟩] W) => h.cell 1 rfl j (by rw [LN.out]; omega)
      have C1 := Aside0.mk c1
      generalize (num n).getD j 0 = v1 at *
      clear c1
      rcases Nat.mod_two_eq_zero_or_one (n / 2 ^ i) with hb0 | hb0
      · have hpw := pow_sq a n i x hb0 hxm
        rw [← hy] at hpw
        have HY := Aside0.mk hpw
        rw [hb0] at hb
        subst hb
        clear hpw hb0 hxm hxP hyP hx hy hj hq e0
        have hbit0 : bits .and .u64 (v1 / 2 ^ q) 1 = 0 := hbit
        clear hbit
        go_wp2_with (first
          | ((with_reducible refine gate_dst (N := 12) rfl ?_); refine ld_arr rfl 44 (.tmp 5) rfl (w.heap.size + 3) rfl (S2.out.blk 3 rfl) Try.underlying44 (m := 4) (by kernel_rfl) (num_length _) ?_)
          | ((with_reducible refine gate_dst (N := 13) rfl ?_); refine ld_arr rfl 44 (.tmp 5) rfl (w.heap.size + 3) rfl (S2.out.blk 3 rfl) Try.underlying44 (m := 4) (by kernel_rfl) (num_length _) ?_)
          | ((with_reducible refine (HM1.out _).mono ?_); rintro e w3 ⟨rfl, hb⟩; have S3 := Aside0.mk (S2.out.step hb); clear hb)
          | (refine st_arr rfl 44 (.tmp 5) (.tmp 14) rfl (w.heap.size + 3) (xs := num y) rfl rfl (S3.out.blk 3 rfl) (m := 4) (by kernel_rfl) (num_length _) (by rw [num_length, num_length]) ?_; intro w4 h1 h2 h4 h3; have S4 := Aside0.mk (S3.out.row 3 rfl h1 h2 h3); have c1 := C1.out _ S4.out; clear h1 h2 h3 h4))
        go_roundg i
        case measure => omega
        case rel => exact ⟨i, by omega, Nat.le_refl _, by go_num, by rw [← HY.out]; exact S4⟩
      · have hpw := pow_sq1 a n i x hb0 hxm y (by rw [hy, Nat.mod_mod])
        have HY := Aside0.mk hpw
        rw [hb0] at hb
        subst hb
        clear hpw hb0 hxm hxP hyP hx hy hj hq e0
        have hbit0 : bits .and .u64 (v1 / 2 ^ q) 1 = 1 := hbit
        clear hbit
        go_wp2_with (first
          | ((with_reducible refine gate_dst (N := 12) rfl ?_); refine ld_arr rfl 44 (.tmp 5) rfl (w.heap.size + 3) rfl (S2.out.blk 3 rfl) Try.underlying44 (m := 4) (by kernel_rfl) (num_length _) ?_)
          | ((with_reducible refine gate_dst (N := 13) rfl ?_); refine ld_arr rfl 44 (.tmp 5) rfl (w.heap.size + 3) rfl (S2.out.blk 3 rfl) Try.underlying44 (m := 4) (by kernel_rfl) (num_length _) ?_)
          | ((with_reducible refine (HM1.out _).mono ?_); rintro e w3 ⟨rfl, hb⟩; have S3 := Aside0.mk (S2.out.step hb); clear hb)
          | (refine st_arr rfl 44 (.tmp 5) (.tmp 14) rfl (w.heap.size + 3) (xs := num y) rfl rfl (S3.out.blk 3 rfl) (m := 4) (by kernel_rfl) (num_length _) (by rw [num_length, num_length]) ?_; intro w4 h1 h2 h4 h3; have S4 := Aside0.mk (S3.out.row 3 rfl h1 h2 h3); have c1 := C1.out _ S4.out; clear h1 h2 h3 h4)
          | ((with_reducible refine gate_dst (N := 24) rfl ?_); refine ld_arr rfl 44 (.tmp 5) rfl (w.heap.size + 3) rfl (S4.out.blk 3 rfl) Try.underlying44 (m := 4) (by kernel_rfl) (num_length _) ?_)
          | ((with_reducible refine gate_dst (N := 25) rfl ?_); refine ld_arr rfl 44 (.tmp 2) rfl w.heap.size rfl (S4.out.blk 0 rfl) Try.underlying44 (m := 4) (by kernel_rfl) (num_length _) ?_)
          | ((with_reducible refine (HM2.out _).mono ?_); rintro e w5 ⟨rfl, hb⟩; have S5 := Aside0.mk (S4.out.step hb); clear hb)
          | (refine st_arr rfl 44 (.tmp 5) (.tmp 26) rfl (w.heap.size + 3) (xs := num (y * a % PP)) rfl rfl (S5.out.blk 3 rfl) (m := 4) (by kernel_rfl) (num_length _) (by rw [num_length, num_length]) ?_; intro w6 h1 h2 h4 h3; have S6 := Aside0.mk (S5.out.row 3 rfl h1 h2 h3); clear h1 h2 h3 h4))
        go_roundg i
        case measure => omega
        case rel => exact ⟨i, by omega, Nat.le_refl _, by go_num, by rw [← HY.out]; exact S6⟩


/-! ### impl_imaginary: function 98 -/
def imaginaryN : Nat := 19681161376707505956807079304988542015446066515923890162744021073123829784752
theorem num_imaginary : [14190309331451158704, 3405592160176694392, 3120150775007532967, 3135389899092516619] = num imaginaryN := by decide
set_option maxHeartbeats 1000000 in
set_option maxRecDepth 100000 in
theorem impl_imaginary.calls (w : World) :
    Calls Try.prog 98 #[] w fun e w' => e = .returned (.agg (arr .u64 (num imaginaryN))) ∧ Below w.heap.size w w' := by
  rw [← num_imaginary]
  go_enter Try.func98, Try.ntmps98
  go_wp2
  exact bodyPost_ret (results_cell_row Try.results98 _ _ w.heap.size 44 _ (0, 0) _ rfl (blk_new w _) Try.underlying44 rfl (by kernel_rfl)) rfl ⟨by rfl, below_alloc (Below.refl _ _) _⟩


/-! ### impl_element_negative: function 99 -/
set_option maxHeartbeats 1000000 in
set_option maxRecDepth 100000 in
theorem impl_element_negative.calls (a : Nat) (w : World) (ha : a < PP) :
    Calls Try.prog 99 #[.agg (arr .u64 (num a))] w fun e w' => e = .returned (.agg (arr .u64 (num ((PP - a) % PP)))) ∧ Below w.heap.size w w' := by
  have HM := Aside0.mk (fun W => impl_element_minus.calls 0 a W (by decide) ha)
  rw [Nat.zero_add, show num 0 = [0, 0, 0, 0] from by decide] at HM
  clear ha
  generalize (PP - a) % PP = r at *
  have S := Aside0.mk (((St.start w).push rfl 44 .u64 (num a)).push (World.size_alloc ..) 44 .u64 z4)
  go_enter Try.func99, Try.ntmps99
  go_wp2_with (first
    | ((with_reducible refine gate_dst (N := 4) rfl ?_); refine ld_arr rfl 44 (.tmp 1) rfl w.heap.size rfl (S.out.blk 0 rfl) Try.underlying44 (m := 4) (by kernel_rfl) (num_length _) ?_)
    | ((refine (HM.out _).mono ?_); rintro e w1 ⟨rfl, hb⟩; have S1 := Aside0.mk (S.out.step hb); clear hb)
    | (refine st_arr rfl 44 (.tmp 2) (.tmp 5) rfl (w.heap.size + 1) (xs := num r) rfl rfl (S1.out.blk 1 rfl) (m := 4) (by kernel_rfl) (num_length _) (by rw [num_length]; rfl) ?_; intro w' h1 h2 h4 h3; have H1 := Aside0.mk h1; have S2 := Aside0.mk (S1.out.row 1 rfl h1 h2 h3); clear h1 h2 h3 h4))
  exact bodyPost_ret (results_cell_row Try.results99 _ _ (w.heap.size + 1) 44 _ (0, 0) _ rfl H1.out Try.underlying44 rfl (by rw [arr_size, num_length]; kernel_rfl)) rfl ⟨rfl, S2.out.below⟩


end Go.Proofs.Ytijeackkgcnbgaa.XH
