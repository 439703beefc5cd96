-- Written by a program of this session (xp.py over the kit's printer, with functions proved by hand). Lean checks it.
import Derived.Test.YtijeackkgcnbgaaXOx0
import Derived.Test.YtijeackkgcnbgaaXOx5
namespace Go.Proofs.Ytijeackkgcnbgaa.XO
open Go.Proofs.Ytijeackkgcnbgaa.Limb Go.Proofs.Ytijeackkgcnbgaa.Arr Go.Proofs.Ytijeackkgcnbgaa.FldA Go.Proofs.Ytijeackkgcnbgaa.FldB Go.Proofs.Ytijeackkgcnbgaa.FldC Go.Proofs.Ytijeackkgcnbgaa.FldS Go.Proofs.Ytijeackkgcnbgaa.FldP Go.Proofs.Ytijeackkgcnbgaa.FldW Go.Proofs.Ytijeackkgcnbgaa.FldM Go.Proofs.Ytijeackkgcnbgaa.FldT Go.Proofs.Ytijeackkgcnbgaa.FldRoot Go.Proofs.Ytijeackkgcnbgaa.FldRoot2 Go.Proofs.Ytijeackkgcnbgaa.FldPt Go.Proofs.Ytijeackkgcnbgaa.St Go.Proofs.Ytijeackkgcnbgaa.StOps Go.Proofs.Ytijeackkgcnbgaa.StMid Go.Proofs.Ytijeackkgcnbgaa.StEq Go.Proofs.Ytijeackkgcnbgaa.StPt Go.Proofs.Ytijeackkgcnbgaa.StIdx
open Go.RowKit Go.Proofs.YtijeackkgcnbgaaW.PrintWords Go.Proofs.YtijeackkgcnbgaaW.PrintLast Go.Proofs.YtijeackkgcnbgaaW.PrintMore
attribute [local go_sem] max2_int min2_int max_two min_two max_three min_three max_four min_four   -- for this text's walks alone
set_option linter.unusedVariables false
set_option linter.unusedSimpArgs false

/-! ### impl_element_minus: function 54 -/
set_option maxHeartbeats 1000000 in
set_option maxRecDepth 100000 in
theorem impl_element_minus.calls (x y : Nat) (w : World) (hx : x < PP) (hy : y < PP) :
    Calls Try.prog 54 #[.agg (arr .u64 (num x)), .agg (arr .u64 (num y))] w fun e w' => e = .returned (.agg (arr .u64 (num ((x + PP - y) % PP)))) ∧ Below w.heap.size w w' := by
  have hpb : PP + PP < BB := by decide
  have e1 : (x + PP) % BB + BB - y % BB = (x + PP - y) + BB := by rw [Nat.mod_eq_of_lt (show x + PP < BB by omega), Nat.mod_eq_of_lt (show y < BB by omega)]; omega
  have e2 : ((x + PP - y) + BB) % BB % PP = (x + PP - y) % PP := by rw [Nat.add_mod_right, Nat.mod_eq_of_lt (show x + PP - y < BB by omega)]
  obtain ⟨cv, HP⟩ : ∃ cv : Value, Aside0 (∀ W, Calls Try.prog 82 #[.agg (arr .u64 (num x)), .agg (arr .u64 (num PP))] W fun e w' => e = .returned (.tuple #[.agg (arr .u64 (num (x + PP))), cv]) ∧ Below W.heap.size W w') := ⟨_, ⟨fun W => impl_number_plus.calls x PP W⟩⟩
  obtain ⟨dv, HM⟩ : ∃ dv : Value, Aside0 (∀ W, Calls Try.prog 84 #[.agg (arr .u64 (num (x + PP))), .agg (arr .u64 (num y))] W fun e w' => e = .returned (.tuple #[.agg (arr .u64 (num (x + PP - y + BB))), dv]) ∧ Below W.heap.size W w') := ⟨_, ⟨fun W => by
    have h := impl_number_minus.calls (x + PP) y W
    rw [show P64 ^ 4 = BB from by decide, e1] at h
    exact h⟩⟩
  have HQ := Aside0.mk (fun W => impl_number_reduced.calls (x + PP - y + BB) W)
  rw [e2] at HQ
  clear e1 e2 hx hy hpb
  generalize x + PP - y + BB = u at *
  generalize (x + PP - y) % PP = r at *
  generalize x + PP = z at *
  have S := Aside0.mk ((((St.start w).push rfl 44 .u64 (num x)).push (World.size_alloc ..) 44 .u64 (num y)).push (by rw [World.size_alloc, World.size_alloc]; rfl) 44 .u64 z4)
  go_enter Try.func54, Try.ntmps54
  go_wp2
  refine abs_world (bs := [⟨44, .u64, num x⟩, ⟨44, .u64, num y⟩, ⟨44, .u64, z4⟩]) S.out ?_
  clear S
  intro W0 hS
  have T := Aside0.mk hS.drew
  clear hS
  refine start_ (n := 9) (S := fun w' => St w [⟨44, .u64, num x⟩, ⟨44, .u64, num y⟩, ⟨44, .u64, z4⟩] w') (ds := []) #[false, false, false, false, false, false, false, false, false] (by kernel_rfl) rfl rfl (T.out) (fun hHeld => ?_)
  refine take_ (i := 0) (N := some 10) (v := ?_) (a' := ?_) #[true, false, false, false, false, false, false, false, false] rfl rfl (by kernel_rfl) (fun _ _ _ h => h) (Or.inl ⟨by rfl, ?_⟩) hHeld ?_ ?_
  rotate_left
  · intro w' s0
    refine (run_ld 44 (.tmp 2) (by rfl) w.heap.size (by rfl) (s0.blk 0 rfl) Try.underlying44 (m := 4) (by kernel_rfl) (num_length _)).trans ?_; with_reducible rfl
  rotate_left
  · simp only [Act.put, List.setIfInBounds_toArray, List.set_cons_zero, List.set_cons_succ, i64_w, i32_w]
    rfl
  refine join_ (σ := Nat) 2 #[true, true, true, true, true, true, true, false, false] (fun s_ => [(11, .agg (arr .u64 (num PP))), (12, .tuple #[.agg (arr .u64 (num z)), cv]), (5, .pointer (some ⟨s_, 0, none⟩)), (9, .tuple #[.agg (arr .u64 (num z)), cv]), (13, .agg (arr .u64 (num z))), (14, cv)]) (fun s_ w' => (St w [⟨44, .u64, num x⟩, ⟨44, .u64, num y⟩, ⟨44, .u64, z4⟩] w') ∧ w'.heap[s_]? = some (.cells (arr .u64 z4) 36 (0, 0)) ∧ w.heap.size + 3 ≤ s_) ?_ ?_
  rotate_left
  · intro hCont
    refine two_ (i := 1) (j := 6) (Ni := some 11) (Nj := some 5) #[true, true, false, false, false, false, false, false, false] #[true, false, false, false, false, false, true, false, false] rfl rfl rfl rfl (by kernel_rfl) (by decide) (by decide) (fun K hK => ?_) (fun K hK => ?_)
    · skip
      refine goes_ Try.func77 (by kernel_rfl) rfl #[] (by rfl) rfl rfl (by simp only [List.map_toArray, List.map_cons, List.map_nil] <;> rfl) ?_
      with_reducible refine (impl_prime.calls _).mono ?_
      rintro e w3 ⟨rfl, hb⟩
      refine ⟨_, rfl, ?_⟩
      have T_1 := Aside0.mk (T.out.step hb)
      clear hb
      refine hK.out _ _ (T_1.out) (fun hHeld => ?_)
      clear hK K
      refine norm_ (a' := ?_) ?_ ?_
      rotate_left
      · show Act.put _ (some 11) _ = _
        simp only [Act.put, List.setIfInBounds_toArray, List.set_cons_zero, List.set_cons_succ, i64_w, i32_w]
        rfl
      refine two_ (i := 2) (j := 6) (Ni := some 12) (Nj := some 5) #[true, true, true, false, false, false, false, false, false] #[true, true, false, false, false, false, true, false, false] rfl rfl rfl rfl (by kernel_rfl) (by decide) (by decide) (fun K hK => ?_) (fun K hK => ?_)
      · skip
        refine goes_ Try.func82 (by kernel_rfl) rfl #[.agg (arr .u64 (num x)), .agg (arr .u64 (num PP))] (by rfl) rfl rfl (by simp only [List.map_toArray, List.map_cons, List.map_nil] <;> rfl) ?_
        with_reducible refine (HP.out _).mono ?_
        rintro e w3 ⟨rfl, hb⟩
        refine ⟨_, rfl, ?_⟩
        have T_1_2 := Aside0.mk (T_1.out.step hb)
        clear hb
        refine hK.out _ _ (T_1_2.out) (fun hHeld => ?_)
        clear hK K
        refine norm_ (a' := ?_) ?_ ?_
        rotate_left
        · show Act.put _ (some 12) _ = _
          simp only [Act.put, List.setIfInBounds_toArray, List.set_cons_zero, List.set_cons_succ, i64_w, i32_w]
          rfl
        refine pure_ (i := 3) (N := some 9) (v := ?_) (a' := ?_) #[true, true, true, true, false, false, false, false, false] rfl rfl (by kernel_rfl) (fun _ _ _ h => h) (Or.inl ⟨by rfl, ?_⟩) ?_ ?_
        rotate_left
        · intro w'
          go_simp
          with_reducible rfl
        rotate_left
        · simp only [Act.put, List.setIfInBounds_toArray, List.set_cons_zero, List.set_cons_succ, i64_w, i32_w]
          rfl
        refine pure_ (i := 4) (N := some 13) (v := ?_) (a' := ?_) #[true, true, true, true, true, false, false, false, false] rfl rfl (by kernel_rfl) (fun _ _ _ h => h) (Or.inl ⟨by rfl, ?_⟩) ?_ ?_
        rotate_left
        · intro w'
          go_simp
          with_reducible rfl
        rotate_left
        · simp only [Act.put, List.setIfInBounds_toArray, List.set_cons_zero, List.set_cons_succ, i64_w, i32_w]
          rfl
        refine pure_ (i := 5) (N := some 14) (v := ?_) (a' := ?_) #[true, true, true, true, true, true, false, false, false] rfl rfl (by kernel_rfl) (fun _ _ _ h => h) (Or.inl ⟨by rfl, ?_⟩) ?_ ?_
        rotate_left
        · intro w'
          go_simp
          with_reducible rfl
        rotate_left
        · simp only [Act.put, List.setIfInBounds_toArray, List.set_cons_zero, List.set_cons_succ, i64_w, i32_w]
          rfl
        refine one_ (i := 6) (N := some 5) #[true, true, true, true, true, true, true, false, false] rfl rfl (by kernel_rfl) (by decide) (fun K hK => ?_)
        refine value_ (w1 := ?_) (v := ?_) (by rfl) rfl ?_ ?_
        rotate_left 2
        · go_simp
          constructor
          · rfl
          · rfl
        have T_1_2_6 := Aside0.mk (T_1_2.out.alloc (.cells (arr .u64 z4) 36))
        have G6_1_2_6 := Aside0.mk (T_1_2.out.new (.cells (arr .u64 z4) 36))
        have E6 := Aside0.mk T_1_2.out.size
        refine hK.out _ _ (T_1_2_6.out) (fun hHeld => ?_)
        clear hK K
        refine norm_ (a' := ?_) ?_ ?_
        rotate_left
        · show Act.put _ (some 5) _ = _
          simp only [Act.put, List.setIfInBounds_toArray, List.set_cons_zero, List.set_cons_succ, i64_w, i32_w]
          rfl
        exact norm_ (by first | (simp only [putAll, Act.put, List.setIfInBounds_toArray, List.set_cons_zero, List.set_cons_succ]; done) | (simp only [putAll, Act.put, List.setIfInBounds_toArray, List.set_cons_zero, List.set_cons_succ]; rfl)) (hCont _ _ ⟨T_1_2_6.out, G6_1_2_6.out, E6.out⟩)
      · skip
        refine value_ (w1 := ?_) (v := ?_) (by rfl) rfl ?_ ?_
        rotate_left 2
        · go_simp
          constructor
          · rfl
          · rfl
        have T_1_6 := Aside0.mk (T_1.out.alloc (.cells (arr .u64 z4) 36))
        have G6_1_6 := Aside0.mk (T_1.out.new (.cells (arr .u64 z4) 36))
        have E6 := Aside0.mk T_1.out.size
        refine hK.out _ _ (T_1_6.out) (fun hHeld => ?_)
        clear hK K
        refine norm_ (a' := ?_) ?_ ?_
        rotate_left
        · show Act.put _ (some 5) _ = _
          simp only [Act.put, List.setIfInBounds_toArray, List.set_cons_zero, List.set_cons_succ, i64_w, i32_w]
          rfl
        refine one_ (i := 2) (N := some 12) #[true, true, true, false, false, false, true, false, false] rfl rfl (by kernel_rfl) (by decide) (fun K hK => ?_)
        refine goes_ Try.func82 (by kernel_rfl) rfl #[.agg (arr .u64 (num x)), .agg (arr .u64 (num PP))] (by rfl) rfl rfl (by simp only [List.map_toArray, List.map_cons, List.map_nil] <;> rfl) ?_
        with_reducible refine (HP.out _).mono ?_
        rintro e w3 ⟨rfl, hb⟩
        refine ⟨_, rfl, ?_⟩
        have T_1_6_2 := Aside0.mk (T_1_6.out.step hb)
        have G6_1_6_2 := Aside0.mk (blk_below G6_1_6.out hb)
        clear hb
        refine hK.out _ _ (T_1_6_2.out) (fun hHeld => ?_)
        clear hK K
        refine norm_ (a' := ?_) ?_ ?_
        rotate_left
        · show Act.put _ (some 12) _ = _
          simp only [Act.put, List.setIfInBounds_toArray, List.set_cons_zero, List.set_cons_succ, i64_w, i32_w]
          rfl
        refine pure_ (i := 3) (N := some 9) (v := ?_) (a' := ?_) #[true, true, true, true, false, false, true, false, false] rfl rfl (by kernel_rfl) (fun _ _ _ h => h) (Or.inl ⟨by rfl, ?_⟩) ?_ ?_
        rotate_left
        · intro w'
          go_simp
          with_reducible rfl
        rotate_left
        · simp only [Act.put, List.setIfInBounds_toArray, List.set_cons_zero, List.set_cons_succ, i64_w, i32_w]
          rfl
        refine pure_ (i := 4) (N := some 13) (v := ?_) (a' := ?_) #[true, true, true, true, true, false, true, false, false] rfl rfl (by kernel_rfl) (fun _ _ _ h => h) (Or.inl ⟨by rfl, ?_⟩) ?_ ?_
        rotate_left
        · intro w'
          go_simp
          with_reducible rfl
        rotate_left
        · simp only [Act.put, List.setIfInBounds_toArray, List.set_cons_zero, List.set_cons_succ, i64_w, i32_w]
          rfl
        refine pure_ (i := 5) (N := some 14) (v := ?_) (a' := ?_) #[true, true, true, true, true, true, true, false, false] rfl rfl (by kernel_rfl) (fun _ _ _ h => h) (Or.inl ⟨by rfl, ?_⟩) ?_ ?_
        rotate_left
        · intro w'
          go_simp
          with_reducible rfl
        rotate_left
        · simp only [Act.put, List.setIfInBounds_toArray, List.set_cons_zero, List.set_cons_succ, i64_w, i32_w]
          rfl
        exact norm_ (by first | (simp only [putAll, Act.put, List.setIfInBounds_toArray, List.set_cons_zero, List.set_cons_succ]; done) | (simp only [putAll, Act.put, List.setIfInBounds_toArray, List.set_cons_zero, List.set_cons_succ]; rfl)) (hCont _ _ ⟨T_1_6_2.out, G6_1_6_2.out, E6.out⟩)
    · skip
      refine value_ (w1 := ?_) (v := ?_) (by rfl) rfl ?_ ?_
      rotate_left 2
      · go_simp
        constructor
        · rfl
        · rfl
      have T_6 := Aside0.mk (T.out.alloc (.cells (arr .u64 z4) 36))
      have G6_6 := Aside0.mk (T.out.new (.cells (arr .u64 z4) 36))
      have E6 := Aside0.mk T.out.size
      refine hK.out _ _ (T_6.out) (fun hHeld => ?_)
      clear hK K
      refine norm_ (a' := ?_) ?_ ?_
      rotate_left
      · show Act.put _ (some 5) _ = _
        simp only [Act.put, List.setIfInBounds_toArray, List.set_cons_zero, List.set_cons_succ, i64_w, i32_w]
        rfl
      refine one_ (i := 1) (N := some 11) #[true, true, false, false, false, false, true, false, false] rfl rfl (by kernel_rfl) (by decide) (fun K hK => ?_)
      refine goes_ Try.func77 (by kernel_rfl) rfl #[] (by rfl) rfl rfl (by simp only [List.map_toArray, List.map_cons, List.map_nil] <;> rfl) ?_
      with_reducible refine (impl_prime.calls _).mono ?_
      rintro e w3 ⟨rfl, hb⟩
      refine ⟨_, rfl, ?_⟩
      have T_6_1 := Aside0.mk (T_6.out.step hb)
      have G6_6_1 := Aside0.mk (blk_below G6_6.out hb)
      clear hb
      refine hK.out _ _ (T_6_1.out) (fun hHeld => ?_)
      clear hK K
      refine norm_ (a' := ?_) ?_ ?_
      rotate_left
      · show Act.put _ (some 11) _ = _
        simp only [Act.put, List.setIfInBounds_toArray, List.set_cons_zero, List.set_cons_succ, i64_w, i32_w]
        rfl
      refine one_ (i := 2) (N := some 12) #[true, true, true, false, false, false, true, false, false] rfl rfl (by kernel_rfl) (by decide) (fun K hK => ?_)
      refine goes_ Try.func82 (by kernel_rfl) rfl #[.agg (arr .u64 (num x)), .agg (arr .u64 (num PP))] (by rfl) rfl rfl (by simp only [List.map_toArray, List.map_cons, List.map_nil] <;> rfl) ?_
      with_reducible refine (HP.out _).mono ?_
      rintro e w3 ⟨rfl, hb⟩
      refine ⟨_, rfl, ?_⟩
      have T_6_1_2 := Aside0.mk (T_6_1.out.step hb)
      have G6_6_1_2 := Aside0.mk (blk_below G6_6_1.out hb)
      clear hb
      refine hK.out _ _ (T_6_1_2.out) (fun hHeld => ?_)
      clear hK K
      refine norm_ (a' := ?_) ?_ ?_
      rotate_left
      · show Act.put _ (some 12) _ = _
        simp only [Act.put, List.setIfInBounds_toArray, List.set_cons_zero, List.set_cons_succ, i64_w, i32_w]
        rfl
      refine pure_ (i := 3) (N := some 9) (v := ?_) (a' := ?_) #[true, true, true, true, false, false, true, false, false] rfl rfl (by kernel_rfl) (fun _ _ _ h => h) (Or.inl ⟨by rfl, ?_⟩) ?_ ?_
      rotate_left
      · intro w'
        go_simp
        with_reducible rfl
      rotate_left
      · simp only [Act.put, List.setIfInBounds_toArray, List.set_cons_zero, List.set_cons_succ, i64_w, i32_w]
        rfl
      refine pure_ (i := 4) (N := some 13) (v := ?_) (a' := ?_) #[true, true, true, true, true, false, true, false, false] rfl rfl (by kernel_rfl) (fun _ _ _ h => h) (Or.inl ⟨by rfl, ?_⟩) ?_ ?_
      rotate_left
      · intro w'
        go_simp
        with_reducible rfl
      rotate_left
      · simp only [Act.put, List.setIfInBounds_toArray, List.set_cons_zero, List.set_cons_succ, i64_w, i32_w]
        rfl
      refine pure_ (i := 5) (N := some 14) (v := ?_) (a' := ?_) #[true, true, true, true, true, true, true, false, false] rfl rfl (by kernel_rfl) (fun _ _ _ h => h) (Or.inl ⟨by rfl, ?_⟩) ?_ ?_
      rotate_left
      · intro w'
        go_simp
        with_reducible rfl
      rotate_left
      · simp only [Act.put, List.setIfInBounds_toArray, List.set_cons_zero, List.set_cons_succ, i64_w, i32_w]
        rfl
      exact norm_ (by first | (simp only [putAll, Act.put, List.setIfInBounds_toArray, List.set_cons_zero, List.set_cons_succ]; done) | (simp only [putAll, Act.put, List.setIfInBounds_toArray, List.set_cons_zero, List.set_cons_succ]; rfl)) (hCont _ _ ⟨T_6_1_2.out, G6_6_1_2.out, E6.out⟩)
  rintro g6_ w9 ⟨hHeld, hG6, hE6⟩
  have T9 := Aside0.mk hHeld
  have GG6 := Aside0.mk hG6
  have EE6 := Aside0.mk hE6
  clear hG6 hE6
  refine norm_ (a' := ?_) ?_ ?_
  rotate_left
  · simp only [putAll, Act.put, List.setIfInBounds_toArray, List.set_cons_zero, List.set_cons_succ]
    rfl
  refine one_ (i := 7) (N := none) #[true, true, true, true, true, true, true, true, false] rfl rfl (by kernel_rfl) (by decide) (fun K hK => ?_)
  refine st_step (by rfl) rfl 36 (.tmp 5) (.tmp 13) rfl g6_ rfl rfl GG6.out (m := 4) (by kernel_rfl) (num_length _) (by rw [num_length]; rfl) ?_
  intro w6 h1 h2 h3 h4
  have G1 := Aside0.mk h1
  have S1 := Aside0.mk (St.other T9.out h2 h3 EE6.out)
  clear h1 h2 h3 h4
  refine hK.out _ _ (S1.out) (fun hHeld => ?_)
  clear hK K
  refine pure_ (i := 8) (N := some 6) (v := ?_) (a' := ?_) #[true, true, true, true, true, true, true, true, true] rfl rfl (by kernel_rfl) (fun _ _ _ h => h) (Or.inl ⟨by rfl, ?_⟩) ?_ ?_
  rotate_left
  · intro w'
    go_simp
    with_reducible rfl
  rotate_left
  · simp only [Act.put, List.setIfInBounds_toArray, List.set_cons_zero, List.set_cons_succ, i64_w, i32_w]
    rfl
  refine done_ (by kernel_rfl) ?_

  go_wp2_with (first
    | ((with_reducible refine gate_dst (N := 16) rfl ?_); refine ld_arr rfl 36 (.tmp 5) rfl g6_ rfl G1.out Try.underlying36 (m := 4) (by kernel_rfl) (num_length _) ?_)
    | ((with_reducible refine gate_dst (N := 17) rfl ?_); refine ld_arr rfl 44 (.tmp 3) rfl (w.heap.size + 1) rfl (S1.out.blk 1 rfl) Try.underlying44 (m := 4) (by kernel_rfl) (num_length _) ?_)
    | ((with_reducible refine (HM.out _).mono ?_); rintro e w7 ⟨rfl, hb⟩; have S2 := Aside0.mk (S1.out.step hb); clear hb)
    | (refine st_arr rfl 36 (.tmp 7) (.tmp 19) rfl w7.heap.size (xs := num u) rfl rfl (blk_new w7 (.cells (arr .u64 z4) 36)) (m := 4) (by kernel_rfl) (num_length _) (by rw [num_length]; rfl) ?_; intro w8 h1 h2 h4 h3; have G3 := Aside0.mk h1; have S3 := Aside0.mk (St.other (S2.out.alloc (.cells (arr .u64 z4) 36)) h2 h3 S2.out.size); clear h1 h2 h3 h4)
    | ((with_reducible refine gate_dst (N := 21) rfl ?_); refine ld_arr rfl 36 (.tmp 7) rfl w7.heap.size rfl G3.out Try.underlying36 (m := 4) (by kernel_rfl) (num_length _) ?_)
    | ((with_reducible refine (HQ.out _).mono ?_); rintro e w9 ⟨rfl, hb⟩; have S4 := Aside0.mk (S3.out.step hb); clear hb)
    | (refine st_arr rfl 44 (.tmp 4) (.tmp 22) rfl (w.heap.size + 2) (xs := num r) rfl rfl (S4.out.blk 2 rfl) (m := 4) (by kernel_rfl) (num_length _) (by rw [num_length]; rfl) ?_; intro w' h1 h2 h4 h3; have H1 := Aside0.mk h1; have S5 := Aside0.mk (S4.out.row 2 rfl h1 h2 h3); clear h1 h2 h3 h4))
  exact bodyPost_ret (results_cell_row Try.results54 _ _ (w.heap.size + 2) 44 _ (0, 0) _ rfl H1.out Try.underlying44 rfl (by rw [arr_size, num_length]; kernel_rfl)) rfl ⟨rfl, S5.out.below⟩


/-! ### bits_Mul64: function 106 -/
set_option maxHeartbeats 1000000 in
set_option maxRecDepth 100000 in
theorem mul64I.calls (x y : Int) (hx0 : 0 ≤ x) (hx : x < 18446744073709551616) (hy0 : 0 ≤ y) (hy : y < 18446744073709551616) (w : World) :
    Calls Try.prog 106 #[.int .u64 x, .int .u64 y] w fun e w' => e = .returned (.tuple #[.int .u64 (x * y / 18446744073709551616), .int .u64 (x * y % 18446744073709551616)]) ∧ w' = w := by
  have e := mul64_arith x y hx0 hx hy0 hy
  have A := and_low32 x hx0 hx
  have B := and_low32 y hy0 hy
  rw [← e]
  clear e
  have E := Aside0.mk A
  have F := Aside0.mk B
  clear A B
  go_enter Try.func106, Try.ntmps106
  go_wp2
  go_ret2
  refine ⟨?_, rfl⟩
  simp only [E.out, F.out, IntKind.wrap_u64]
  rw [and_low32 _ (by omega) (by omega)]
  rfl


/-! ### impl_number_times: function 88 -/
set_option maxHeartbeats 1000000 in
set_option maxRecDepth 100000 in
theorem impl_number_times.calls (x y : Nat) (w : World) (hx : x < BB) (hy : y < BB) :
    Calls Try.prog 88 #[.agg (arr .u64 (num x)), .agg (arr .u64 (num y))] w fun e w' => e = .returned (.agg (arr .u64 (wid (x * y)))) ∧ Below w.heap.size w w' := by
  rw [← tm_wid x y hx hy]
  obtain ⟨M4, hM4⟩ : ∃ l, l = tmW (num x) (num y) 4 := ⟨_, rfl⟩
  rw [← hM4]
  have HM4 := Aside0.mk hM4
  clear hM4
  have LX := Aside0.mk (num_length x)
  have LY := Aside0.mk (num_length y)
  have OX := Aside0.mk (num_ok x)
  have OY := Aside0.mk (num_ok y)
  have LW := Aside0.mk (tmW_length (num x) (num y))
  have LR := Aside0.mk (fun i k => (tmR_length (num x) (num y) (tmW (num x) (num y) i) i k).trans (tmW_length _ _ i))
  have OR := Aside0.mk (fun i (hi : i < 4) k hk => tmR_ok x y i hi _ (tmW_ok x y i (by omega)) (tmW_length _ _ i) k hk)
  have SW := Aside0.mk (fun i => show tmW (num x) (num y) (i + 1) = (tmR (num x) (num y) i (tmW (num x) (num y) i) 4).1.set (i + 4) (tmR (num x) (num y) i (tmW (num x) (num y) i) 4).2 from by simp only [tmW])
  have S := Aside0.mk (((((St.start w).push rfl 36 .u64 (num x)).push (World.size_alloc ..) 36 .u64 (num y)).push (by rw [World.size_alloc, World.size_alloc]; rfl) 74 .u64 z8).push (by rw [World.size_alloc, World.size_alloc, World.size_alloc]; rfl) 74 .u64 z8)
  go_enter Try.func88, Try.ntmps88
  go_wp2_with (first
    | ((with_reducible refine gate_dst (N := 14) rfl ?_); refine ld_arr rfl 36 (.tmp 2) rfl w.heap.size rfl (S.out.blk 0 rfl) Try.underlying36 (m := 4) (by kernel_rfl) (num_length _) ?_))
  go_loopg [6, 7, 15] 4 (fun gg _ _ v15 wr => ∃ i : Nat, i ≤ 4 ∧ 4 - i ≤ gg ∧ v15 = .int .i64 i ∧ Aside0 (St w [⟨36, .u64, num x⟩, ⟨36, .u64, num y⟩, ⟨74, .u64, z8⟩, ⟨74, .u64, tmW (num x) (num y) i⟩] wr))
  case atStart => exact ⟨0, by omega, by omega, rfl, S⟩
  case round =>
    obtain ⟨i, hi, hg, rfl, S1⟩ := hrel
    by_cases hlt : i < 4
    · have hlti : (i : Int) < 4 := by omega
      have a := getD_range OX.out i (by rw [LX.out]; omega)
      have a1 := a.1
      have a2 : (num x).getD i 0 < 18446744073709551616 := a.2
      clear a
      have hix : ∀ W, (Instr.index 36 (.agg (arr .u64 (num x))) (.int .i64 (i : Int))).run Try.prog W = .ok (.int .u64 ((num x).getD i 0)) W := fun W => run_index_arr 36 34 4 .u64 (num x) i Try.underlying36 .u64 Try.underlying34 (by kernel_rfl) hlt LX.out
      have ER := Aside0.mk (fun k => show tmR (num x) (num y) i (tmW (num x) (num y) i) (k + 1) = ((tmR (num x) (num y) i (tmW (num x) (num y) i) k).1.set (i + k) (((num x).getD i 0 * (num y).getD k 0 + (tmR (num x) (num y) i (tmW (num x) (num y) i) k).1.getD (i + k) 0 + (tmR (num x) (num y) i (tmW (num x) (num y) i) k).2) % 18446744073709551616), ((num x).getD i 0 * (num y).getD k 0 + (tmR (num x) (num y) i (tmW (num x) (num y) i) k).1.getD (i + k) 0 + (tmR (num x) (num y) i (tmW (num x) (num y) i) k).2) / 18446744073709551616) from rfl)
      have ORi := Aside0.mk (fun k hk => OR.out i hlt k hk)
      have LRi := Aside0.mk (fun k => LR.out i k)
      have E0 := Aside0.mk (show tmR (num x) (num y) i (tmW (num x) (num y) i) 0 = (tmW (num x) (num y) i, 0) from rfl)
      have SWi := Aside0.mk (SW.out i)
      generalize (num x).getD i 0 = a at *
      generalize tmR (num x) (num y) i (tmW (num x) (num y) i) = R at *
      go_wp2_with (first
        | ((with_reducible refine gate_dst (N := 19) rfl ?_); refine ld_arr rfl 36 (.tmp 3) rfl (w.heap.size + 1) rfl (S1.out.blk 1 rfl) Try.underlying36 (m := 4) (by kernel_rfl) (num_length _) ?_))
      go_loopg [8, 9, 10, 11, 12, 13, 20] 4 (fun gg2 v8 _ _ _ _ _ v20 wr2 => ∃ k : Nat, k ≤ 4 ∧ 4 - k ≤ gg2 ∧ v20 = .int .i64 k ∧ v8 = .int .u64 (R k).2 ∧ Aside0 (St w [⟨36, .u64, num x⟩, ⟨36, .u64, num y⟩, ⟨74, .u64, z8⟩, ⟨74, .u64, (R k).1⟩] wr2))
      case atStart => exact ⟨0, by omega, by omega, rfl, by rw [E0.out], by rw [E0.out]; exact S1⟩
      case round =>
        obtain ⟨k, hk, hg2, rfl, rfl, S2⟩ := hrel
        obtain ⟨o1, o2, o3⟩ := ORi.out k hk
        by_cases hlt2 : k < 4
        · have hlti2 : (k : Int) < 4 := by omega
          have b := getD_range OY.out k (by rw [LY.out]; omega)
          have b1 := b.1
          have b2 : (num y).getD k 0 < 18446744073709551616 := b.2
          clear b
          have hiy : ∀ W, (Instr.index 36 (.agg (arr .u64 (num y))) (.int .i64 (k : Int))).run Try.prog W = .ok (.int .u64 ((num y).getD k 0)) W := fun W => run_index_arr 36 34 4 .u64 (num y) k Try.underlying36 .u64 Try.underlying34 (by kernel_rfl) hlt2 LY.out
          have hc1 := S2.out.cell 3 rfl (i + k) (by rw [LRi.out]; omega)
          have hf1 := blk_frozen (S2.out.blk 3 rfl) (i + k)
          have q := getD_range o1 (i + k) (by rw [LRi.out]; omega)
          have q1 := q.1
          have q2 : (R k).1.getD (i + k) 0 < 18446744073709551616 := q.2
          clear q
          have P0 := Aside0.mk (fun v => S2.out.set 3 rfl (i + k) v)
          have EQ := Aside0.mk (ER.out k)
          obtain ⟨j, hj⟩ : ∃ j : Nat, j = i + k := ⟨_, rfl⟩
          have hj1 : (i : Int) + (k : Int) = (j : Int) := by omega
          have hj2 : (j : Int) < 8 := by omega
          rw [← hj] at hc1 hf1 P0 EQ q1 q2
          clear hj o1
          generalize (R k).1.getD j 0 = o at *
          generalize (num y).getD k 0 = b at *
          generalize (R k).2 = c at *
          have hp := prod64 a b ⟨a1, a2⟩ ⟨b1, b2⟩
          have HM := Aside0.mk (fun W => mul64I.calls a b a1 a2 b1 b2 W)
          generalize a * b = p at *
          obtain ⟨ph, eph⟩ : ∃ ph, ph = p / 18446744073709551616 := ⟨_, rfl⟩
          obtain ⟨pl, epl⟩ : ∃ pl, pl = p % 18446744073709551616 := ⟨_, rfl⟩
          rw [← eph, ← epl] at HM
          have hadd1 := fun W => add64_calls pl o 0 (by omega) q1 (by omega) (by omega) W
          obtain ⟨s1, es1⟩ : ∃ s1, s1 = (pl + o + 0) % 18446744073709551616 := ⟨_, rfl⟩
          obtain ⟨c1, ec1⟩ : ∃ c1, c1 = (pl + o + 0) / 18446744073709551616 := ⟨_, rfl⟩
          rw [← es1, ← ec1] at hadd1
          have hadd2 := fun W => add64_calls s1 c 0 (by omega) o2 (by omega) (by omega) W
          obtain ⟨s2, es2⟩ : ∃ s2, s2 = (s1 + c + 0) % 18446744073709551616 := ⟨_, rfl⟩
          obtain ⟨c2, ec2⟩ : ∃ c2, c2 = (s1 + c + 0) / 18446744073709551616 := ⟨_, rfl⟩
          rw [← es2, ← ec2] at hadd2
          have w1 : 0 ≤ ph + c1 := by omega
          have w2 : ph + c1 < 18446744073709551616 := by omega
          have w3 : 0 ≤ ph + c1 + c2 := by omega
          have w4 : ph + c1 + c2 < 18446744073709551616 := by omega
          have f1 : (p + o + c) % 18446744073709551616 = s2 := by omega
          have f2 : (p + o + c) / 18446744073709551616 = ph + c1 + c2 := by omega
          rw [f1, f2] at EQ
          have P := Aside0.mk (P0.out s2)
          clear f1 f2 es1 ec1 es2 ec2 eph epl hp P0
          go_wp2_with ((with_reducible refine (HM.out _).mono ?_); rintro e w1 ⟨rfl, rfl⟩)
          go_roundg (4 - (k + 1))
          case measure => omega
          case rel => exact ⟨k + 1, by omega, by omega, by go_num, by rw [EQ.out], by rw [EQ.out]; exact P⟩
        · have hk4 : k = 4 := by omega
          subst hk4
          have hneg : ¬ ((4 : Nat) : Int) < 4 := by omega
          obtain ⟨j, hj⟩ : ∃ j : Nat, j = i + 4 := ⟨_, rfl⟩
          have hj1 : (i : Int) + 4 = (j : Int) := by omega
          have hj2 : (j : Int) < 8 := by omega
          have hc1 := S2.out.cell 3 rfl j (by rw [LRi.out]; omega)
          have hf1 := blk_frozen (S2.out.blk 3 rfl) j
          have P := Aside0.mk (S2.out.set 3 rfl j (R 4).2)
          have EQ := SWi
          rw [← hj] at EQ
          clear hj o1
          generalize (R 4).2 = c at *
          go_wp2
          go_roundg (4 - (i + 1))
          case measure => omega
          case rel => exact ⟨i + 1, by omega, by omega, by go_num, by rw [EQ.out]; exact P⟩
    · have hi4 : i = 4 := by omega
      subst hi4
      have hneg : ¬ ((4 : Nat) : Int) < 4 := by omega
      have l := LW.out 4
      rw [← HM4.out] at S1 l
      have L := Aside0.mk l
      clear l
      go_wp2_with (first
        | ((with_reducible refine gate_dst (N := 64) rfl ?_); refine ld_arr rfl 74 (.tmp 5) rfl (w.heap.size + 3) rfl (S1.out.blk 3 rfl) Try.underlying74 (m := 8) (by kernel_rfl) L.out ?_)
        | (refine st_arr rfl 74 (.tmp 4) (.tmp 64) rfl (w.heap.size + 2) (xs := M4) rfl rfl (S1.out.blk 2 rfl) (m := 8) (by kernel_rfl) L.out (by rw [L.out]; rfl) ?_; intro w' h1 h2 h4 h3; have H1 := Aside0.mk h1; have S4 := Aside0.mk (S1.out.row 2 rfl h1 h2 h3); clear h1 h2 h3 h4))
      exact bodyPost_ret (results_cell_row Try.results88 _ _ (w.heap.size + 2) 74 _ (0, 0) _ rfl H1.out Try.underlying74 rfl (by rw [arr_size, L.out]; kernel_rfl)) rfl ⟨rfl, S4.out.below⟩


/-! ### impl_small: function 95 -/
set_option maxHeartbeats 1000000 in
set_option maxRecDepth 100000 in
theorem impl_small.calls (n : Nat) (w : World) (hn : n < 18446744073709551616) :
    Calls Try.prog 95 #[.int .u64 (n : Int)] w fun e w' => e = .returned (.agg (arr .u64 (num n))) ∧ Below w.heap.size w w' := by
  rw [← num_small n hn]
  clear hn
  go_enter Try.func95, Try.ntmps95
  go_wp2
  exact bodyPost_ret (results_cell_row Try.results95 _ _ w.heap.size 36 _ (0, 0) _ rfl (blk_new w _) Try.underlying36 rfl (by kernel_rfl)) rfl ⟨by rfl, below_alloc (Below.refl _ _) _⟩


end Go.Proofs.Ytijeackkgcnbgaa.XO
