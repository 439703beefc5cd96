-- Written by a program of this session (xp.py over the kit's printer, with functions proved by hand). Lean checks it.
import Derived.Test.YtlphppkhihabdaaXNx0
import Derived.Test.YtlphppkhihabdaaXNx5
import Derived.Test.YtlphppkhihabdaaXNx7
namespace Go.Proofs.Ytlphppkhihabdaa.XN
open Go.Proofs.Ytlphppkhihabdaa.Limb Go.Proofs.Ytlphppkhihabdaa.Arr Go.Proofs.Ytlphppkhihabdaa.FldA Go.Proofs.Ytlphppkhihabdaa.FldB Go.Proofs.Ytlphppkhihabdaa.FldC Go.Proofs.Ytlphppkhihabdaa.FldS Go.Proofs.Ytlphppkhihabdaa.St Go.Proofs.Ytlphppkhihabdaa.OpenS Go.Proofs.Ytlphppkhihabdaa.StOps Go.Proofs.Ytlphppkhihabdaa.StMid Go.Proofs.Ytlphppkhihabdaa.StIdx Go.Proofs.Ytlphppkhihabdaa.StPt Go.Proofs.Ytlphppkhihabdaa.StBd Go.Proofs.Ytlphppkhihabdaa.ShaA Go.Proofs.Ytlphppkhihabdaa.ShaB Go.Proofs.Ytlphppkhihabdaa.ShaS
open Go.RowKit Go.Proofs.YtlphppkhihabdaaW.PrintWords Go.Proofs.YtlphppkhihabdaaW.PrintLast Go.Proofs.YtlphppkhihabdaaW.PrintMore
attribute [local go_sem] max2_int min2_int max_two min_two max_three min_three max_four min_four   -- for this text's walks alone
set_option linter.unusedVariables false
set_option linter.unusedSimpArgs false

/-! ### impl_wide_scalar: function 26 -/
set_option maxHeartbeats 1000000 in
set_option maxRecDepth 100000 in
theorem impl_wide_scalar.calls (W : Nat) (w : World) (hW : W < P64 ^ 8) :
    Calls Try.prog 26 #[.agg (arr .u64 (wid W))] w fun e w' => e = .returned (.agg (arr .u64 (num (W % orderN)))) ∧ Below w.heap.size w w' := by
  have S := Aside0.mk ((((St.start w).push rfl 53 .u64 (wid W)).push (World.size_alloc ..) 34 .u64 z4).push (by rw [World.size_alloc, World.size_alloc]; rfl) 34 .u64 z4)
  have H0 := Aside0.mk (show num (W / 2 ^ 512 % orderN) = z4 from wide_top W 512 hW rfl)
  have LW := Aside0.mk (wid_length W)
  clear hW
  go_enter Try.func26, Try.ntmps26
  go_wp2
  go_loopg [4] 513 (fun gg s4 wr => ∃ k : Nat, k ≤ 512 ∧ k ≤ gg ∧ s4 = .int .i64 ((k : Int) - 1) ∧ Aside0 (St w [⟨53, .u64, wid W⟩, ⟨34, .u64, z4⟩, ⟨34, .u64, num (W / 2 ^ k % orderN)⟩] wr))
  case atStart => exact ⟨512, Nat.le_refl _, by omega, rfl, by rw [H0.out]; exact S⟩
  case round =>
    obtain ⟨k, hk, hg, rfl, S1⟩ := hrel
    rcases Nat.eq_zero_or_pos k with h0 | h0
    · subst h0
      have e0 : ((0 : Nat) : Int) - 1 = -1 := rfl
      rw [e0]
      rw [Nat.pow_zero, Nat.div_one] at S1
      go_wp2_with (first
        | ((with_reducible refine gate_dst (N := 37) rfl ?_); refine ld_arr rfl 34 (.tmp 3) rfl (w.heap.size + 2) rfl (S1.out.blk 2 rfl) Try.underlying34 (m := 4) (by kernel_rfl) (num_length _) ?_)
        | (refine st_arr rfl 34 (.tmp 2) (.tmp 37) rfl (w.heap.size + 1) (xs := num (W % orderN)) rfl rfl (S1.out.blk 1 rfl) (m := 4) (by kernel_rfl) (num_length _) (by rw [num_length]; rfl) ?_; intro w' h1 h2 h4 h3; have H1 := Aside0.mk h1; have S2 := Aside0.mk (S1.out.row 1 rfl h1 h2 h3); clear h1 h2 h3 h4))
      exact bodyPost_ret (results_cell_row Try.results26 _ _ (w.heap.size + 1) 34 _ (0, 0) _ rfl H1.out Try.underlying34 rfl (by rw [arr_size, num_length]; kernel_rfl)) rfl ⟨rfl, S2.out.below⟩
    · obtain ⟨i, rfl⟩ : ∃ i, k = i + 1 := ⟨k - 1, by omega⟩
      have e0 : (((i + 1 : Nat)) : Int) - 1 = (i : Int) := by omega
      rw [e0]
      have hi0 : (i : Int) ≥ 0 := by omega
      have hi5 : i < 512 := by omega
      obtain ⟨x, hx⟩ : ∃ x, x = W / 2 ^ (i + 1) % orderN := ⟨_, rfl⟩
      obtain ⟨b, hb⟩ : ∃ b, b = W / 2 ^ i % 2 := ⟨_, rfl⟩
      have hbit := wid_and W i hi5
      have hxo : x < orderN := by rw [hx]; exact Nat.mod_lt _ (by decide)
      have hRM := round_mod W i
      rw [← hx] at S1 hRM
      rw [← hb] at hbit hRM
      have hb2 : b < 2 := by omega
      have HEV := Aside0.mk (even_or x b hb2)
      have HPL := Aside0.mk (fun W' => impl_number_plus.calls x x W')
      have e2 : x + x = 2 * x := by omega
      rw [e2] at HPL
      obtain ⟨cv, hcv⟩ : ∃ cv, cv = (((x % P64 ^ 4 + x % P64 ^ 4) / P64 ^ 4 : Nat) : Int) := ⟨_, rfl⟩
      rw [← hcv] at HPL
      obtain ⟨y, hy⟩ : ∃ y, y = 2 * x + b := ⟨_, rfl⟩
      have HRM := Aside0.mk hRM
      have HY := Aside0.mk hy
      have HXO := Aside0.mk hxo
      clear hcv hRM hx hb hxo
      obtain ⟨j, hj⟩ : ∃ j : Nat, j = i / 64 := ⟨_, rfl⟩
      obtain ⟨q, hq⟩ : ∃ q : Nat, q = i % 64 := ⟨_, rfl⟩
      have hj1 : (i : Int) / 64 = (j : Int) := by omega
      have hj3 : (i : Int).tdiv 64 = (j : Int) := by rw [Int.tdiv_eq_ediv_of_nonneg (by omega)]; omega
      have hq1 : (i : Int) % 64 = (q : Int) := by omega
      have hq2 : (i : Int).tmod 64 = (q : Int) := by rw [Int.tmod_eq_emod_of_nonneg (by omega)]; omega
      have j8 : (j : Int) < 8 := by omega
      have q63 : (q : Int) < 64 := by omega
      have j8n : j < 8 := by omega
      have q63n : q < 64 := by omega
      have m63 : min q 64 = q := by omega
      have wj : IntKind.i64.wrap (j : Int) = (j : Int) := by rw [IntKind.wrap_i64]; omega
      have wq : IntKind.i64.wrap (q : Int) = (q : Int) := by rw [IntKind.wrap_i64]; omega
      rw [← hj, ← hq] at hbit
      clear hj hq hy e0
      go_wp2_with (first
        | ((with_reducible refine gate_dst (N := 10) rfl ?_); refine ld_arr rfl 34 (.tmp 3) rfl (w.heap.size + 2) rfl (S1.out.blk 2 rfl) Try.underlying34 (m := 4) (by kernel_rfl) (num_length _) ?_)
        | ((with_reducible refine gate_dst (N := 11) rfl ?_); refine ld_arr rfl 34 (.tmp 3) rfl (w.heap.size + 2) rfl (S1.out.blk 2 rfl) Try.underlying34 (m := 4) (by kernel_rfl) (num_length _) ?_)
        | ((with_reducible refine (HPL.out _).mono ?_); rintro e w1 ⟨rfl, hb⟩; have S2 := Aside0.mk (S1.out.step hb); clear hb)
        | (refine st_arr rfl 34 (.tmp 3) (.tmp 13) rfl (w.heap.size + 2) (xs := num (2 * x)) rfl rfl (S2.out.blk 2 rfl) (m := 4) (by kernel_rfl) (num_length _) (by rw [num_length, num_length]) ?_; intro w2 h1 h2 h4 h3; have S3 := Aside0.mk (S2.out.row 2 rfl h1 h2 h3); clear h1 h2 h3 h4))
      have c0 := S3.out.cell 2 rfl 0 (by rw [num_length]; omega)
      have c1 := S3.out.cell 0 rfl j (by rw [LW.out]; omega)
      rw [Nat.add_zero] at c1
      have f0 := blk_frozen (S3.out.blk 2 rfl) 0
      have PS := Aside0.mk (fun v => (S3.out.set 2 rfl 0 v).drew)
      have r1 := getD_range (wid_ok W) j (by rw [wid_length]; omega)
      have r2 := r1.1
      clear r1
      generalize hv0 : (num (2 * x)).getD 0 0 = v0 at c0 HEV
      generalize (wid W).getD j 0 = v1 at c1 hbit r2
      go_wp2
      refine start_ (n := 13) (S := fun w' => w'.cell? ⟨w.heap.size + 1 + 1, 0, none⟩ = some (.int .u64 v0) ∧ w'.cell? ⟨w.heap.size, j, none⟩ = some (.int .u64 v1)) (ds := [12]) #[false, false, false, false, false, false, false, false, false, false, false, false, false] (by kernel_rfl) rfl rfl ⟨c0, c1⟩ (fun hHeld => ?_)
      refine pure_ (i := 0) (N := some 15) (v := ?_) (a' := ?_) #[true, false, false, false, false, false, false, false, false, false, false, false, false] rfl rfl (by kernel_rfl) (fun _ _ _ h => h) (Or.inl ⟨by rfl, ?_⟩) ?_ ?_
      rotate_left
      · intro w'; go_simp; with_reducible rfl
      rotate_left
      · simp only [Act.put, OpenRow.s1, OpenRow.s2, OpenRow.s3, i64_w, i32_w]; rfl
      refine pure_ (i := 2) (N := some 17) (v := ?_) (a' := ?_) #[true, false, true, false, false, false, false, false, false, false, false, false, false] rfl rfl (by kernel_rfl) (fun _ _ _ h => h) (Or.inl ⟨by rfl, ?_⟩) ?_ ?_
      rotate_left
      · intro w'; go_simp; with_reducible rfl
      rotate_left
      · simp only [Act.put, OpenRow.s1, OpenRow.s2, OpenRow.s3, i64_w, i32_w]; rfl
      refine pure_ (i := 3) (N := some 18) (v := ?_) (a' := ?_) #[true, false, true, true, false, false, false, false, false, false, false, false, false] rfl rfl (by kernel_rfl) (fun _ _ _ h => h) (Or.inl ⟨by rfl, ?_⟩) ?_ ?_
      rotate_left
      · intro w'; go_simp; with_reducible rfl
      rotate_left
      · simp only [Act.put, OpenRow.s1, OpenRow.s2, OpenRow.s3, i64_w, i32_w]; rfl
      refine pure_ (i := 4) (N := some 19) (v := ?_) (a' := ?_) #[true, false, true, true, true, false, false, false, false, false, false, false, false] rfl rfl (by kernel_rfl) (fun _ _ _ h => h) (Or.inl ⟨by rfl, ?_⟩) ?_ ?_
      rotate_left
      · intro w'; go_simp; with_reducible rfl
      rotate_left
      · simp only [Act.put, OpenRow.s1, OpenRow.s2, OpenRow.s3, i64_w, i32_w]; rfl
      refine pure_ (i := 6) (N := some 21) (v := ?_) (a' := ?_) #[true, false, true, true, true, false, true, false, false, false, false, false, false] rfl rfl (by kernel_rfl) (fun _ _ _ h => h) (Or.inl ⟨by rfl, ?_⟩) ?_ ?_
      rotate_left
      · intro w'; go_simp; with_reducible rfl
      rotate_left
      · simp only [Act.put, OpenRow.s1, OpenRow.s2, OpenRow.s3, i64_w, i32_w]; rfl
      refine pure_ (i := 7) (N := some 22) (v := ?_) (a' := ?_) #[true, false, true, true, true, false, true, true, false, false, false, false, false] rfl rfl (by kernel_rfl) (fun _ _ _ h => h) (Or.inl ⟨by rfl, ?_⟩) ?_ ?_
      rotate_left
      · intro w'; go_simp; with_reducible rfl
      rotate_left
      · simp only [Act.put, OpenRow.s1, OpenRow.s2, OpenRow.s3, i64_w, i32_w]; rfl
      refine take_ (i := 1) (N := some 16) (v := ?_) (a' := ?_) #[true, true, true, true, true, false, true, true, false, false, false, false, false] rfl rfl (by kernel_rfl) (fun _ _ _ h => h) (Or.inl ⟨by rfl, ?_⟩) hHeld ?_ ?_
      rotate_left
      · rintro w' ⟨s0, s1⟩
        go_simp
        with_reducible rfl
      rotate_left
      · simp only [Act.put, OpenRow.s1, OpenRow.s2, OpenRow.s3, i64_w, i32_w]; rfl
      refine take_ (i := 5) (N := some 20) (v := ?_) (a' := ?_) #[true, true, true, true, true, true, true, true, false, false, false, false, false] rfl rfl (by kernel_rfl) (fun _ _ _ h => h) (Or.inl ⟨by rfl, ?_⟩) hHeld ?_ ?_
      rotate_left
      · rintro w' ⟨s0, s1⟩
        go_simp
        with_reducible rfl
      rotate_left
      · simp only [Act.put, OpenRow.s1, OpenRow.s2, OpenRow.s3, i64_w, i32_w]; rfl
      refine pure_ (i := 8) (N := some 23) (v := ?_) (a' := ?_) #[true, true, true, true, true, true, true, true, true, false, false, false, false] rfl rfl (by kernel_rfl) (fun _ _ _ h => h) (Or.inl ⟨by rfl, ?_⟩) ?_ ?_
      rotate_left
      · intro w'; go_simp; with_reducible rfl
      rotate_left
      · simp only [Act.put, OpenRow.s1, OpenRow.s2, OpenRow.s3, i64_w, i32_w]; rfl
      refine pure_ (i := 9) (N := some 24) (v := ?_) (a' := ?_) #[true, true, true, true, true, true, true, true, true, true, false, false, false] rfl rfl (by kernel_rfl) (fun _ _ _ h => h) (Or.inl ⟨by rfl, ?_⟩) ?_ ?_
      rotate_left
      · intro w'; go_simp; with_reducible rfl
      rotate_left
      · simp only [Act.put, OpenRow.s1, OpenRow.s2, OpenRow.s3, i64_w, i32_w]; rfl
      refine pure_ (i := 10) (N := some 25) (v := ?_) (a' := ?_) #[true, true, true, true, true, true, true, true, true, true, true, false, false] rfl rfl (by kernel_rfl) (fun _ _ _ h => h) (Or.inl ⟨by rfl, ?_⟩) ?_ ?_
      rotate_left
      · intro w'; go_simp; with_reducible rfl
      rotate_left
      · simp only [Act.put, OpenRow.s1, OpenRow.s2, OpenRow.s3, i64_w, i32_w]; rfl
      refine pure_ (i := 11) (N := some 26) (v := ?_) (a' := ?_) #[true, true, true, true, true, true, true, true, true, true, true, true, false] rfl rfl (by kernel_rfl) (fun _ _ _ h => h) (Or.inl ⟨by rfl, ?_⟩) ?_ ?_
      rotate_left
      · intro w'; go_simp; with_reducible rfl
      rotate_left
      · simp only [Act.put, OpenRow.s1, OpenRow.s2, OpenRow.s3, i64_w, i32_w]; rfl
      refine last_ (i := 12) (N := none) #[true, true, true, true, true, true, true, true, true, true, true, true, true] rfl rfl (by kernel_rfl) (by decide) (fun K hK => ?_)
      refine skip_ (w1 := ?_) (by rfl) rfl ?_ ?_
      rotate_left
      · go_simp
        rfl
      refine hK.out _ _ ?_
      clear hK K
      refine done_ (by kernel_rfl) ?_

      have S4 := Aside0.mk (show St w [⟨53, .u64, wid W⟩, ⟨34, .u64, z4⟩, ⟨34, .u64, num (y)⟩] ((w2.setCell ⟨w.heap.size + 1 + 1, 0, none⟩ (.int .u64 (bits .or .u64 v0 (b : Int)))).drew) by
        have h := PS.out (bits .or .u64 v0 (b : Int))
        have h9 := HEV.out
        rw [← HY.out] at h9
        rw [← h9]
        exact h)
      generalize (w2.setCell ⟨w.heap.size + 1 + 1, 0, none⟩ (.int .u64 (bits .or .u64 v0 (b : Int)))).drew = w3 at *
      clear c0 c1 f0 PS hbit hv0 r2
      have hb4 : P64 ^ 4 = BB := by decide
      have hyB : y < BB := by have h1 := HY.out; have h2 := HXO.out; rw [orderN_eq] at h2; rw [BB_eq]; omega
      have hoB : orderN < BB := by decide
      by_cases hp : y < orderN
      · have HL : Aside0 (∀ W, Calls Try.prog 33 #[.agg (arr .u64 (num y)), .agg (arr .u64 (num orderN))] W fun e w' => e = .returned (.bool true) ∧ Below W.heap.size W w') := ⟨fun W => by
          have h := impl_number_less.calls y orderN W
          rw [hb4, Nat.mod_eq_of_lt hyB, Nat.mod_eq_of_lt hoB, decide_eq_true hp] at h
          exact h⟩
        have EY := Aside0.mk (show y = W / 2 ^ i % orderN by rw [← HRM.out, ← HY.out, Nat.mod_eq_of_lt hp])
        clear hb4 hyB hoB hp
        go_wp2
        refine start_ (n := 4) (S := fun w' => St w [⟨53, .u64, wid W⟩, ⟨34, .u64, z4⟩, ⟨34, .u64, num (y)⟩] w') (ds := []) #[false, false, false, false] (by kernel_rfl) rfl rfl (S4.out.drew) (fun hHeld => ?_)
        refine take_ (i := 0) (N := some 27) (v := ?_) (a' := ?_) #[true, false, false, false] rfl rfl (by kernel_rfl) (fun _ _ _ h => h) (Or.inl ⟨by rfl, ?_⟩) hHeld ?_ ?_
        rotate_left
        · intro w' s0
          refine (run_ld 34 (.tmp 3) (by rfl) (w.heap.size + 2) (by rfl) (s0.blk 2 rfl) Try.underlying34 (m := 4) (by kernel_rfl) (num_length _)).trans ?_; with_reducible rfl
        rotate_left
        · simp only [Act.put, OpenRow.s1, OpenRow.s2, OpenRow.s3, i64_w, i32_w]; rfl
        refine one_ (i := 1) (N := some 28) #[true, true, false, false] rfl rfl (by kernel_rfl) (by decide) (fun K hK => ?_)
        have S3 := Aside0.mk (S4.out.drew)
        refine goes_ Try.func34 (by kernel_rfl) rfl #[] (by rfl) rfl rfl (by simp only [List.map_toArray, List.map_cons, List.map_nil] <;> rfl) ?_
        with_reducible refine (impl_order.calls _).mono ?_
        rintro e w3 ⟨rfl, hb⟩
        refine ⟨_, rfl, ?_⟩
        have S4 := Aside0.mk (S3.out.step hb)
        clear hb
        refine hK.out _ _ (S4.out) (fun hHeld => ?_)
        clear hK K
        refine norm_ (a' := ?_) ?_ ?_
        rotate_left
        · show Act.put _ (some 28) _ = _
          simp only [Act.put, OpenRow.s1, OpenRow.s2, OpenRow.s3, i64_w, i32_w]
          rfl
        refine one_ (i := 2) (N := some 29) #[true, true, true, false] rfl rfl (by kernel_rfl) (by decide) (fun K hK => ?_)
        refine goes_ Try.func33 (by kernel_rfl) rfl #[.agg (arr .u64 (num y)), .agg (arr .u64 (num orderN))] (by rfl) rfl rfl (by simp only [List.map_toArray, List.map_cons, List.map_nil] <;> rfl) ?_
        with_reducible refine (HL.out _).mono ?_
        rintro e w3 ⟨rfl, hb⟩
        refine ⟨_, rfl, ?_⟩
        have S5 := Aside0.mk (S4.out.step hb)
        clear hb
        refine hK.out _ _ (S5.out) (fun hHeld => ?_)
        clear hK K
        refine norm_ (a' := ?_) ?_ ?_
        rotate_left
        · show Act.put _ (some 29) _ = _
          simp only [Act.put, OpenRow.s1, OpenRow.s2, OpenRow.s3, i64_w, i32_w]
          rfl
        refine pure_ (i := 3) (N := some 30) (v := ?_) (a' := ?_) #[true, true, true, true] rfl rfl (by kernel_rfl) (fun _ _ _ h => h) (Or.inl ⟨by rfl, ?_⟩) ?_ ?_
        rotate_left
        · intro w'; go_simp; with_reducible rfl
        rotate_left
        · simp only [Act.put, OpenRow.s1, OpenRow.s2, OpenRow.s3, i64_w, i32_w]; rfl
        refine done_ (by kernel_rfl) ?_

        go_wp2
        go_roundg i
        case measure => omega
        case rel => exact ⟨i, by omega, Nat.le_refl _, by go_num, by rw [← EY.out]; exact S5⟩
      · have HL : Aside0 (∀ W, Calls Try.prog 33 #[.agg (arr .u64 (num y)), .agg (arr .u64 (num orderN))] W fun e w' => e = .returned (.bool false) ∧ Below W.heap.size W w') := ⟨fun W => by
          have h := impl_number_less.calls y orderN W
          rw [hb4, Nat.mod_eq_of_lt hyB, Nat.mod_eq_of_lt hoB, decide_eq_false hp] at h
          exact h⟩
        obtain ⟨bw, HM⟩ : ∃ bw : Value, Aside0 (∀ W, Calls Try.prog 35 #[.agg (arr .u64 (num y)), .agg (arr .u64 (num orderN))] W fun e w' => e = .returned (.tuple #[.agg (arr .u64 (num (y - orderN))), bw]) ∧ Below W.heap.size W w') := ⟨_, ⟨fun W => by
          have h := impl_number_minus.calls y orderN W
          rw [hb4, Nat.mod_eq_of_lt hyB, Nat.mod_eq_of_lt hoB] at h
          have e1 : y + BB - orderN = (y - orderN) + BB := by omega
          have e2 : (y + BB - orderN) % BB = (y - orderN) % BB := (congrArg (· % BB) e1).trans (Nat.add_mod_right _ _)
          have e : num (y + BB - orderN) = num (y - orderN) := (num_mod (y + BB - orderN)).symm.trans ((congrArg num e2).trans (num_mod (y - orderN)))
          rw [e] at h
          exact h⟩⟩
        have EY := Aside0.mk (show y - orderN = W / 2 ^ i % orderN by
          have h1 := HY.out; have h2 := HXO.out
          rw [← HRM.out, ← HY.out, Nat.mod_eq_sub_mod (by omega), Nat.mod_eq_of_lt (by omega)])
        clear hb4 hyB hoB hp
        go_wp2
        refine start_ (n := 4) (S := fun w' => St w [⟨53, .u64, wid W⟩, ⟨34, .u64, z4⟩, ⟨34, .u64, num (y)⟩] w') (ds := []) #[false, false, false, false] (by kernel_rfl) rfl rfl (S4.out.drew) (fun hHeld => ?_)
        refine take_ (i := 0) (N := some 27) (v := ?_) (a' := ?_) #[true, false, false, false] rfl rfl (by kernel_rfl) (fun _ _ _ h => h) (Or.inl ⟨by rfl, ?_⟩) hHeld ?_ ?_
        rotate_left
        · intro w' s0
          refine (run_ld 34 (.tmp 3) (by rfl) (w.heap.size + 2) (by rfl) (s0.blk 2 rfl) Try.underlying34 (m := 4) (by kernel_rfl) (num_length _)).trans ?_; with_reducible rfl
        rotate_left
        · simp only [Act.put, OpenRow.s1, OpenRow.s2, OpenRow.s3, i64_w, i32_w]; rfl
        refine one_ (i := 1) (N := some 28) #[true, true, false, false] rfl rfl (by kernel_rfl) (by decide) (fun K hK => ?_)
        have S3 := Aside0.mk (S4.out.drew)
        refine goes_ Try.func34 (by kernel_rfl) rfl #[] (by rfl) rfl rfl (by simp only [List.map_toArray, List.map_cons, List.map_nil] <;> rfl) ?_
        with_reducible refine (impl_order.calls _).mono ?_
        rintro e w3 ⟨rfl, hb⟩
        refine ⟨_, rfl, ?_⟩
        have S4 := Aside0.mk (S3.out.step hb)
        clear hb
        refine hK.out _ _ (S4.out) (fun hHeld => ?_)
        clear hK K
        refine norm_ (a' := ?_) ?_ ?_
        rotate_left
        · show Act.put _ (some 28) _ = _
          simp only [Act.put, OpenRow.s1, OpenRow.s2, OpenRow.s3, i64_w, i32_w]
          rfl
        refine one_ (i := 2) (N := some 29) #[true, true, true, false] rfl rfl (by kernel_rfl) (by decide) (fun K hK => ?_)
        refine goes_ Try.func33 (by kernel_rfl) rfl #[.agg (arr .u64 (num y)), .agg (arr .u64 (num orderN))] (by rfl) rfl rfl (by simp only [List.map_toArray, List.map_cons, List.map_nil] <;> rfl) ?_
        with_reducible refine (HL.out _).mono ?_
        rintro e w3 ⟨rfl, hb⟩
        refine ⟨_, rfl, ?_⟩
        have S5 := Aside0.mk (S4.out.step hb)
        clear hb
        refine hK.out _ _ (S5.out) (fun hHeld => ?_)
        clear hK K
        refine norm_ (a' := ?_) ?_ ?_
        rotate_left
        · show Act.put _ (some 29) _ = _
          simp only [Act.put, OpenRow.s1, OpenRow.s2, OpenRow.s3, i64_w, i32_w]
          rfl
        refine pure_ (i := 3) (N := some 30) (v := ?_) (a' := ?_) #[true, true, true, true] rfl rfl (by kernel_rfl) (fun _ _ _ h => h) (Or.inl ⟨by rfl, ?_⟩) ?_ ?_
        rotate_left
        · intro w'; go_simp; with_reducible rfl
        rotate_left
        · simp only [Act.put, OpenRow.s1, OpenRow.s2, OpenRow.s3, i64_w, i32_w]; rfl
        refine done_ (by kernel_rfl) ?_

        go_wp2
        refine start_ (n := 7) (S := fun w' => St w [⟨53, .u64, wid W⟩, ⟨34, .u64, z4⟩, ⟨34, .u64, num (y)⟩] w') (ds := [6]) #[false, false, false, false, false, false, false] (by kernel_rfl) rfl rfl (S5.out.drew) (fun hHeld => ?_)
        refine take_ (i := 0) (N := some 32) (v := ?_) (a' := ?_) #[true, false, false, false, false, false, false] rfl rfl (by kernel_rfl) (fun _ _ _ h => h) (Or.inl ⟨by rfl, ?_⟩) hHeld ?_ ?_
        rotate_left
        · intro w' s0
          refine (run_ld 34 (.tmp 3) (by rfl) (w.heap.size + 2) (by rfl) (s0.blk 2 rfl) Try.underlying34 (m := 4) (by kernel_rfl) (num_length _)).trans ?_; with_reducible rfl
        rotate_left
        · simp only [Act.put, OpenRow.s1, OpenRow.s2, OpenRow.s3, i64_w, i32_w]; rfl
        refine one_ (i := 1) (N := some 33) #[true, true, false, false, false, false, false] rfl rfl (by kernel_rfl) (by decide) (fun K hK => ?_)
        have S6 := Aside0.mk (S5.out.drew)
        refine goes_ Try.func34 (by kernel_rfl) rfl #[] (by rfl) rfl rfl (by simp only [List.map_toArray, List.map_cons, List.map_nil] <;> rfl) ?_
        with_reducible refine (impl_order.calls _).mono ?_
        rintro e w3 ⟨rfl, hb⟩
        refine ⟨_, rfl, ?_⟩
        have S7 := Aside0.mk (S6.out.step hb)
        clear hb
        refine hK.out _ _ (S7.out) (fun hHeld => ?_)
        clear hK K
        refine norm_ (a' := ?_) ?_ ?_
        rotate_left
        · show Act.put _ (some 33) _ = _
          simp only [Act.put, OpenRow.s1, OpenRow.s2, OpenRow.s3, i64_w, i32_w]
          rfl
        refine one_ (i := 2) (N := some 34) #[true, true, true, false, false, false, false] rfl rfl (by kernel_rfl) (by decide) (fun K hK => ?_)
        refine goes_ Try.func35 (by kernel_rfl) rfl #[.agg (arr .u64 (num y)), .agg (arr .u64 (num orderN))] (by rfl) rfl rfl (by simp only [List.map_toArray, List.map_cons, List.map_nil] <;> rfl) ?_
        with_reducible refine (HM.out _).mono ?_
        rintro e w3 ⟨rfl, hb⟩
        refine ⟨_, rfl, ?_⟩
        have S8 := Aside0.mk (S7.out.step hb)
        clear hb
        refine hK.out _ _ (S8.out) (fun hHeld => ?_)
        clear hK K
        refine norm_ (a' := ?_) ?_ ?_
        rotate_left
        · show Act.put _ (some 34) _ = _
          simp only [Act.put, OpenRow.s1, OpenRow.s2, OpenRow.s3, i64_w, i32_w]
          rfl
        refine pure_ (i := 3) (N := some 31) (v := ?_) (a' := ?_) #[true, true, true, true, false, false, false] rfl rfl (by kernel_rfl) (fun _ _ _ h => h) (Or.inl ⟨by rfl, ?_⟩) ?_ ?_
        rotate_left
        · intro w'; go_simp; with_reducible rfl
        rotate_left
        · simp only [Act.put, OpenRow.s1, OpenRow.s2, OpenRow.s3, i64_w, i32_w]; rfl
        refine pure_ (i := 4) (N := some 35) (v := ?_) (a' := ?_) #[true, true, true, true, true, false, false] rfl rfl (by kernel_rfl) (fun _ _ _ h => h) (Or.inl ⟨by rfl, ?_⟩) ?_ ?_
        rotate_left
        · intro w'; go_simp; with_reducible rfl
        rotate_left
        · simp only [Act.put, OpenRow.s1, OpenRow.s2, OpenRow.s3, i64_w, i32_w]; rfl
        refine pure_ (i := 5) (N := some 36) (v := ?_) (a' := ?_) #[true, true, true, true, true, true, false] rfl rfl (by kernel_rfl) (fun _ _ _ h => h) (Or.inl ⟨by rfl, ?_⟩) ?_ ?_
        rotate_left
        · intro w'; go_simp; with_reducible rfl
        rotate_left
        · simp only [Act.put, OpenRow.s1, OpenRow.s2, OpenRow.s3, i64_w, i32_w]; rfl
        refine last_ (i := 6) (N := none) #[true, true, true, true, true, true, true] rfl rfl (by kernel_rfl) (by decide) (fun K hK => ?_)
        refine st_step (by rfl) rfl 34 (.tmp 3) (.tmp 35) rfl (w.heap.size + 2) rfl rfl (S8.out.blk 2 rfl) (m := 4) (by kernel_rfl) (num_length _) (by rw [num_length, num_length]) ?_
        intro w6 h1 h2 h3 h4
        have S9 := Aside0.mk (S8.out.row 2 rfl h1 h2 h3)
        clear h1 h2 h3 h4
        refine hK.out _ _ ?_
        clear hK K
        refine done_ (by kernel_rfl) ?_

        go_wp2
        go_roundg i
        case measure => omega
        case rel => exact ⟨i, by omega, Nat.le_refl _, by go_num, by rw [← EY.out]; exact S9⟩


/-! ### impl_scalarOf: function 16 -/
set_option maxHeartbeats 1000000 in
set_option maxRecDepth 100000 in
theorem impl_scalarOf.calls (A0 : Option Addr) (c0 : Nat) (l0 : List Int) (w : World) (hr0 : Kd.C (Kd.int .u8) w A0 l0.length l0) (h64 : l0.length ≤ 64) (hb : Ok 256 l0) :
    Calls Try.prog 16 #[.slice A0 l0.length c0] w fun e w' => e = .returned (.agg (arr .u64 (num (bval l0 % orderN)))) ∧ Below w.heap.size w w' := by
  have HW := Aside0.mk (wofS_all l0 hb h64)
  have HS := Aside0.mk (fun W => impl_wide_scalar.calls (bval l0) W (by
    have h1 := bval_lt l0 hb
    have h2 : 256 ^ l0.length ≤ 256 ^ 64 := Nat.pow_le_pow_right (by decide) h64
    have h3 : P64 ^ 8 = 256 ^ 64 := by decide
    omega))
  obtain ⟨sc, hsc⟩ : ∃ sc, sc = num (bval l0 % orderN) := ⟨_, rfl⟩
  have LS := Aside0.mk (show sc.length = 4 by rw [hsc]; exact num_length _)
  rw [← hsc] at HS ⊢
  rw [← HW.out] at HS
  clear HW hsc
  have HR := Aside0.mk hr0
  clear hr0 hb
  go_enter Try.func16, Try.ntmps16
  go_wp2
  go_loopg [4, 5, 8] l0.length (fun gg _ _ v8 wr => ∃ k : Nat, k ≤ l0.length ∧ l0.length - k ≤ gg ∧ v8 = .int .i64 k ∧ Aside0 (St w [⟨34, .u64, z4⟩, ⟨53, .u64, wofS l0 k⟩] wr))
  case atStart => exact ⟨0, by omega, by omega, rfl, ⟨((St.start w).push rfl 34 .u64 z4).push (World.size_alloc ..) 53 .u64 z8s⟩⟩
  case round =>
    obtain ⟨k, hk, hg, rfl, S⟩ := hrel
    by_cases hlt : k < l0.length
    · have hlti : (k : Int) < (l0.length : Int) := by omega
      obtain ⟨ad, e1, hx⟩ := Kd.at_int (Kd.C_below HR.out S.out.below) (k : Int) (by omega) (by omega)
      cases e1
      simp only [Int.toNat_natCast] at hx
      obtain ⟨i, hi⟩ : ∃ i : Nat, i = k / 8 := ⟨_, rfl⟩
      obtain ⟨q, hq⟩ : ∃ q : Nat, q = k % 8 := ⟨_, rfl⟩
      obtain ⟨n, hn⟩ : ∃ n : Nat, n = 8 * q := ⟨_, rfl⟩
      have hi1 : (k : Int) / 8 = (i : Int) := by omega
      have hq1 : (k : Int) % 8 = (q : Int) := by omega
      have hq2 : (k : Int).tmod 8 = (q : Int) := by rw [Int.tmod_eq_emod_of_nonneg (by omega)]; omega
      have hn1 : 8 * (q : Int) = (n : Int) := by omega
      have i4 : i < 8 := by omega
      have n56 : min n 64 = n := by omega
      have hc1 := S.out.cell 1 rfl i (by rw [wofS_length]; omega)
      have hf1 := blk_frozen (S.out.blk 1 rfl) i
      have h4 : (i : Int) < 8 := by omega
      have hn2 : (n : Int) ≤ 56 := by omega
      have HI := Aside0.mk hi
      have HQ := Aside0.mk hq
      have HN := Aside0.mk hn
      clear hi hq hn
      have P1 := Aside0.mk ((S.out.set 1 rfl i (bits .or .u64 ((wofS l0 k).getD i 0) (IntKind.u64.wrap (IntKind.u64.wrap (rd l0 k) * 2 ^ n)))).drew)
      have EQ := Aside0.mk (show wofS l0 (k + 1) = (wofS l0 k).set i (bits .or .u64 ((wofS l0 k).getD i 0) (IntKind.u64.wrap (IntKind.u64.wrap (rd l0 k) * 2 ^ n))) from by rw [HN.out, HI.out, HQ.out]; rfl)
      generalize rd l0 (k : Int) = c at *
      generalize (wofS l0 k).getD i 0 = a at *
      go_wp2
      go_region
      go_wp2
      go_roundg (l0.length - (k + 1))
      case measure => omega
      case rel => exact ⟨k + 1, by omega, by omega, by go_num, by rw [EQ.out]; exact ⟨P1.out⟩⟩
    · have hkl : k = l0.length := by omega
      have hneg : ¬ (k : Int) < (l0.length : Int) := by omega
      rw [← hkl] at HS
      clear hkl
      go_wp2_with (first
        | ((with_reducible refine gate_dst (N := 26) rfl ?_); refine ld_arr rfl 53 (.tmp 3) rfl (w.heap.size + 1) rfl (S.out.blk 1 rfl) Try.underlying53 (m := 8) (by kernel_rfl) (wofS_length _ _) ?_)
        | ((with_reducible refine (HS.out _).mono ?_); rintro e w1 ⟨rfl, hb⟩; have S1 := Aside0.mk (S.out.step hb); clear hb)
        | (refine st_arr rfl 34 (.tmp 2) (.tmp 27) rfl w.heap.size (xs := sc) rfl rfl (S1.out.blk 0 rfl) (m := 4) (by kernel_rfl) LS.out (by rw [LS.out]; rfl) ?_; intro w' h1 h2 h4 h3; have H1 := Aside0.mk h1; have S2 := Aside0.mk (S1.out.row 0 rfl h1 h2 h3); clear h1 h2 h3 h4))
      exact bodyPost_ret (results_cell_row Try.results16 _ _ w.heap.size 34 _ (0, 0) _ rfl H1.out Try.underlying34 rfl (by rw [arr_size, LS.out]; kernel_rfl)) rfl ⟨rfl, S2.out.below⟩


/-! ### impl_number_bytes: function 17 -/
set_option maxHeartbeats 400000 in
set_option maxRecDepth 100000 in
theorem impl_number_bytes.calls (x : Nat) (w : World) :
    Calls Try.prog 17 #[.agg (arr .u64 (num x))] w fun e w' => ∃ v0_ : Value, e = .returned (v0_) ∧ Kd.R (Kd.int .u8) 5 w' w.heap.size (fun _ => True) v0_ (limbs 256 32 x) ∧ Below w.heap.size w w' := by
  obtain ⟨xs, hxs⟩ : ∃ l, l = num x := ⟨_, rfl⟩
  have HX := Aside0.mk (hxs ▸ num_length x)
  have UX := Aside0.mk (hxs ▸ num_ok x)
  rw [← hxs]
  have V : bytS xs 32 = limbs 256 32 x := by rw [hxs]; exact bytS_num x
  rw [← V]
  clear hxs V
  have HB0 := Aside0.mk (show Below w.heap.size w (w.alloc (.cells (arr .u64 xs) 34)) from below_alloc (Below.refl _ _) _)
  have BX := Aside0.mk (blk_new w (.cells (arr .u64 xs) 34))
  go_enter Try.func17, Try.ntmps17
  go_wp2_with (first | ((with_reducible refine gate_dst (N := 5) rfl ?_); refine Kd.R_make (Kd.int .u8) _ 5 rfl (N := 5) rfl 22 _ _ rfl (32 : Int) rfl rfl Try.underlying22 (.int .u8 0) 1 info5 rfl (by decide) (by omega) 0 (ok := fun _ => True) (okp := fun _ => True) rfl (fun _ hk => hk) trivial (by decide) (by decide) (Below.refl _ _) (Nat.le_refl _) ?_; intro v148 w5 ho6 hb hg_ hnew_; rw [World.size_alloc] at ho6; have HO := Aside0.mk ho6; have HB := Aside0.mk (below_step HB0.out hb); have B0 := Aside0.mk (blk_below BX.out hb); clear ho6 hb hg_ hnew_; obtain ⟨Ao, co, eo⟩ := Kd.R_slice HO.out; rw [List.length_replicate, show Int.toNat 32 = 32 from rfl] at eo; subst eo))
  go_loopg [4, 8] 32 (fun gg _ v8 wr => ∃ k : Nat, k ≤ 32 ∧ 32 - k ≤ gg ∧ v8 = .int .i64 k ∧ Aside0 (wr.heap[w.heap.size]? = some (.cells (arr .u64 xs) 34 (0, 0))) ∧ Aside0 (Kd.R (Kd.int .u8) 5 wr (w.heap.size + 1) (fun _ => True) (.slice Ao 32 co) (bytS xs k)) ∧ Aside0 (Below w.heap.size w wr))
  case atStart => exact ⟨0, by omega, by omega, rfl, B0, HO, HB⟩
  case round =>
    obtain ⟨k, hk, hg, rfl, B1, HR, HB1⟩ := hrel
    by_cases hlt : k < 32
    · have hlti : (k : Int) < 32 := by omega
      obtain ⟨go, co', eo', gb, gl, cl, HG⟩ := Kd.R_form HR.out (by rw [bytS_length]; omega)
      injection eo' with ea en ec
      subst ea
      subst ec
      clear en
      obtain ⟨hx0, hf0⟩ := Kd.R_celln 0 HR.out (k : Int) (by omega) (by omega)
      obtain ⟨i, hi⟩ : ∃ i : Nat, i = k / 8 := ⟨_, rfl⟩
      obtain ⟨q, hq⟩ : ∃ q : Nat, q = k % 8 := ⟨_, rfl⟩
      obtain ⟨n, hn⟩ : ∃ n : Nat, n = 8 * q := ⟨_, rfl⟩
      have HP := Kd.R_putg HR.out (k : Int) ((xs.getD i 0 / 2 ^ n) % 256)
      simp only [Int.toNat_natCast] at hx0 hf0 HP
      have hc1 := blk_get B1.out i (by have := HX.out; omega)
      have hi1 : (k : Int) / 8 = (i : Int) := by omega
      have hq1 : (k : Int) % 8 = (q : Int) := by omega
      have hq2 : (k : Int).tmod 8 = (q : Int) := by rw [Int.tmod_eq_emod_of_nonneg (by omega)]; omega
      have hn1 : 8 * (q : Int) = (n : Int) := by omega
      have i4 : i < 4 := by omega
      have n56 : min n 64 = n := by omega
      have h4 : (i : Int) < 4 := by omega
      have hn2 : (n : Int) ≤ 56 := by omega
      have B2 := Aside0.mk (blk_far B1.out (p := ⟨go, k, none⟩) (by show w.heap.size ≠ go; omega) (.int .u8 ((xs.getD i 0 / 2 ^ n) % 256)))
      have HB2 := Aside0.mk (below_set (j := k) (v := .int .u8 ((xs.getD i 0 / 2 ^ n) % 256)) HB1.out (show w.heap.size ≤ go by omega))
      have HP2 := Aside0.mk HP.1
      have EQ := Aside0.mk (show bytS xs (k + 1) = (bytS xs k).set k ((xs.getD i 0 / 2 ^ n) % 256) from by rw [hi, hn, hq]; rfl)
      have a0 := getD_range UX.out i (by have := HX.out; omega)
      have a1 := a0.1
      clear hi hq hn HP gb gl HG a0
      generalize xs.getD i 0 = a at *
      go_wp2
      go_roundg (32 - (k + 1))
      case measure => omega
      case rel => exact ⟨k + 1, by omega, by omega, by go_num, B2, by rw [EQ.out]; exact HP2, HB2⟩
    · obtain rfl : k = 32 := by omega
      have hneg : ¬ ((32 : Nat) : Int) < 32 := by omega
      go_wp2
      go_ret
      exact ⟨_, rfl, Kd.R_lower HR.out (by omega), HB1.out⟩


/-! ### impl_ScalarOf: function 11 -/
def impl_ScalarOf.f (l0 : List Int) : Option (List Int × Int) := if 65536 < l0.length then some ([], 2) else if 64 < l0.length then some ([], 4) else if okB l0 then some (limbs 256 32 (bval l0 % orderN), 0) else none
set_option maxHeartbeats 1000000 in
set_option maxRecDepth 100000 in
theorem impl_ScalarOf.calls (A0 : Option Addr) (c0 : Nat) (l0 : List Int) (r1 : List Int) (r2 : Int) (w : World) (hr0 : Kd.C (Kd.int .u8) w A0 l0.length l0) (hc0 : l0.length ≤ c0) (h : impl_ScalarOf.f l0 = some (r1, r2)) :
    Calls Try.prog 11 #[.slice A0 l0.length c0] w fun e w' => ∃ v0_ : Value, e = .returned (.tuple #[v0_, .int .i64 r2]) ∧ Kd.R (Kd.int .u8) 5 w' w.heap.size (fun _ => True) v0_ r1 ∧ Below w.heap.size w w' := by
  have HC0 := Aside0.mk hr0
  clear hr0
  unfold impl_ScalarOf.f at h
  have HS := Aside0.mk (impl_isShort_byte.calls A0 c0 l0 _ w HC0.out hc0 rfl)
  by_cases h1 : 65536 < l0.length
  · rw [if_pos h1] at h
    simp only [Option.some.injEq, Prod.mk.injEq] at h
    obtain ⟨rfl, rfl⟩ := h
    rw [decide_eq_false (by omega)] at HS
    go_enter Try.func11, Try.ntmps11
    go_wp2_with ((with_reducible refine (HS.out).mono ?_); rintro e w1 ⟨rfl, hb⟩; have HB := Aside0.mk hb; clear hb)
    go_ret2
    exact ⟨_, rfl, Kd.R_nil _ _ _ _ _, HB.out.below⟩
  · rw [if_neg h1] at h
    rw [decide_eq_true (by omega)] at HS
    by_cases h2 : 64 < l0.length
    · rw [if_pos h2] at h
      simp only [Option.some.injEq, Prod.mk.injEq] at h
      obtain ⟨rfl, rfl⟩ := h
      have h3 : (l0.length : Int) > 64 := by omega
      go_enter Try.func11, Try.ntmps11
      go_wp2_with ((with_reducible refine (HS.out).mono ?_); rintro e w1 ⟨rfl, hb⟩; have HB := Aside0.mk hb; clear hb)
      go_ret2
      exact ⟨_, rfl, Kd.R_nil _ _ _ _ _, HB.out.below⟩
    · rw [if_neg h2] at h
      by_cases ho : okB l0 = true
      · rw [if_pos ho] at h
        simp only [Option.some.injEq, Prod.mk.injEq] at h
        obtain ⟨rfl, rfl⟩ := h
        have h3 : ¬ (l0.length : Int) > 64 := by omega
        have HN := Aside0.mk (fun W (hC : Kd.C (Kd.int .u8) W A0 l0.length l0) => impl_scalarOf.calls A0 c0 l0 W hC (by omega) (okB_ok l0 ho))
        have HY := Aside0.mk (fun W => impl_number_bytes.calls (bval l0 % orderN) W)
        clear ho
        go_enter Try.func11, Try.ntmps11
        go_wp2_with (first
          | ((with_reducible refine (HS.out).mono ?_); rintro e w1 ⟨rfl, hb⟩; have HB := Aside0.mk (hb.below); have HC1 := Aside0.mk (Kd.C_below HC0.out HB.out); clear hb)
          | ((with_reducible refine (HN.out _ HC1.out).mono ?_); rintro e w2 ⟨rfl, hb⟩; have HB2 := Aside0.mk (below_step HB.out hb); clear hb)
          | ((with_reducible refine (HY.out _).mono ?_); rintro e w3 ⟨v3, rfl, hR, hb⟩; have HR := Aside0.mk (Kd.R_lower hR (below_size HB2.out)); have HB3 := Aside0.mk (below_step HB2.out hb); clear hb hR))
        go_ret2
        exact ⟨_, rfl, HR.out, HB3.out⟩
      · rw [if_neg ho] at h; cases h


/-! ### laws_FnHash: function 4 -/
def laws_FnHash.j0 : Nat → List Int → Bool → Option (Bool)
  | 0, _, _ => none
  | k + 1, x3, x37 => if x37 = true then (some false) else ((impl_ScalarOf.f x3).bind fun bt164 => ((impl_ScalarOf.f bt164.1).bind fun bt168 => (if bt164.2 = 0 then (if bt168.2 = 0 then (if (bt164.1.length : Int) = 32 then (some ((strOfNums bt168.1).toList == (strOfNums bt164.1).toList)) else (some false)) else (some false)) else (some false))))
def laws_FnHash.f (k : Nat) (l0 : List Int) : Option (Bool) := if (l0.length : Int) > 4000 then (some true) else ((impl_Sha512.f l0).bind fun bt156 => ((spec_Sha512.f k l0).bind fun bt160 => (if bt156.2 = 0 then (if (bt156.1.length : Int) = 64 then (laws_FnHash.j0 k bt156.1 ((strOfNums bt156.1).toList != (strOfNums bt160.1).toList)) else (laws_FnHash.j0 k bt156.1 true)) else (laws_FnHash.j0 k bt156.1 true))))
theorem laws_FnHash.mono_l : ∀ k, (∀ y0 y1, LeO (laws_FnHash.j0 k y0 y1) (laws_FnHash.j0 (k + 1) y0 y1))
  | 0 => fun _ _ r h => by simp [laws_FnHash.j0] at h
  | k + 1 => by
    have ih0 := laws_FnHash.mono_l k
    · intro y0 y1
      unfold laws_FnHash.j0
      repeat' first
      | (with_reducible exact ih0 _ _)
      | (with_reducible exact spec_Sha512.mono _ _)
      | (with_reducible exact LeO.refl _)
      | (with_reducible exact LeO.none _)
      | (with_reducible refine LeO.ite ?_ ?_)
      | (with_reducible refine LeO.bind ?_ (fun _ => ?_))
      | exact ih0 _ _
      | exact spec_Sha512.mono _ _
      | exact LeO.none _
      | refine LeO.ite ?_ ?_
      | refine LeO.bind ?_ (fun _ => ?_)
theorem laws_FnHash.mono : ∀ a0 k, LeO (laws_FnHash.f k a0) (laws_FnHash.f (k + 1) a0) := by
  intro a0 k
  have ih0 := laws_FnHash.mono_l k
  unfold laws_FnHash.f
  repeat' first
      | (with_reducible exact ih0 _ _)
      | (with_reducible exact spec_Sha512.mono _ _)
      | (with_reducible exact LeO.refl _)
      | (with_reducible exact LeO.none _)
      | (with_reducible refine LeO.ite ?_ ?_)
      | (with_reducible refine LeO.bind ?_ (fun _ => ?_))
      | exact ih0 _ _
      | exact spec_Sha512.mono _ _
      | exact LeO.none _
      | refine LeO.ite ?_ ?_
      | refine LeO.bind ?_ (fun _ => ?_)
set_option maxHeartbeats 8000000 in
set_option maxRecDepth 100000 in
theorem laws_FnHash.calls (k : Nat) (A0 : Option Addr) (c0 : Nat) (l0 : List Int) (r : Bool) (w : World) (hr0 : Kd.C (Kd.int .u8) w A0 l0.length l0) (hc0 : l0.length ≤ c0) (h : laws_FnHash.f k l0 = some r) :
    Calls Try.prog 4 #[.slice A0 l0.length c0] w fun e w' => e = .returned (.bool r) ∧ Below w.heap.size w w' := by
  have HR0 := Aside0.mk hr0
  have HC0 := Aside0.mk hc0
  clear hr0 hc0
  have HB := Aside0.mk (Below.refl w.heap.size w)
  have H : (if (l0.length : Int) > 4000 then (some true) else ((impl_Sha512.f l0).bind fun bt156 => ((spec_Sha512.f k l0).bind fun bt160 => (if bt156.2 = 0 then (if (bt156.1.length : Int) = 64 then (laws_FnHash.j0 k bt156.1 ((strOfNums bt156.1).toList != (strOfNums bt160.1).toList)) else (laws_FnHash.j0 k bt156.1 true)) else (laws_FnHash.j0 k bt156.1 true))))) = some r := h
  clear h
  by_cases c2 : (l0.length : Int) > 4000
  · rw [if_pos c2] at H
    have c2b0 : decide (4000 < (l0.length : Int)) = true := decide_eq_true c2
    have c2b1 : decide (4000 < l0.length) = true := decide_eq_true (by omega)
    clear c2
    obtain rfl := Option.some.inj H
    go_enter Try.func4, Try.ntmps4
    go_wp2
    go_ret
    exact ⟨by first | rfl | (simp [errW_none, errW_some] <;> rfl) | (simp [*, errW_none, errW_some] <;> rfl), by repeat (first | (with_reducible first | exact HB.out | apply below_alloc | apply pw_below_drewN | apply below_drew1) | exact HB.out)⟩
  · rw [if_neg c2] at H
    have c2b0 : decide (4000 < (l0.length : Int)) = false := decide_eq_false c2
    have c2b1 : decide (4000 < l0.length) = false := decide_eq_false (by omega)
    clear c2
    replace H := Option.bind_eq_some_iff.mp H
    obtain ⟨⟨t156, t157⟩, A30, H⟩ := H
    replace H : ((spec_Sha512.f k l0).bind fun bt160 => (if t157 = 0 then (if (t156.length : Int) = 64 then (laws_FnHash.j0 k t156 ((strOfNums t156).toList != (strOfNums bt160.1).toList)) else (laws_FnHash.j0 k t156 true)) else (laws_FnHash.j0 k t156 true))) = some r := H
    have A3 := Aside0.mk A30
    clear A30
    replace H := Option.bind_eq_some_iff.mp H
    obtain ⟨⟨t160, t161⟩, A40, H⟩ := H
    replace H : (if t157 = 0 then (if (t156.length : Int) = 64 then (laws_FnHash.j0 k t156 ((strOfNums t156).toList != (strOfNums t160).toList)) else (laws_FnHash.j0 k t156 true)) else (laws_FnHash.j0 k t156 true)) = some r := H
    have A4 := Aside0.mk A40
    clear A40
    have HC5 := Aside0.mk H
    clear H
    go_enter Try.func4, Try.ntmps4
    go_upto_region 5 with (first | ((with_reducible refine gate_callee (f := 7) rfl ?_); refine goesL_ (some 16) rfl rfl Try.func7 (by kernel_rfl) rfl #[.slice A0 l0.length c0] rfl (by (try simp only [List.map_toArray, List.map_cons, List.map_nil]); first | done | rfl | (simp only [List.length_drop, List.length_take]; rfl)) ?_; (with_reducible refine (impl_Sha512.calls _ _ l0 t156 t157 _ ?side1 ?side2 A3.out).mono ?_); (case side1 => repeat (first | exact HR0.out | (with_reducible refine Kd.C_alloc ?_ _) | (with_reducible refine Kd.C_drewN ?_ _) | (with_reducible refine Kd.C_drew ?_))); (case side2 => exact HC0.out); rintro e w6 ⟨v158, rfl, ho0, hb⟩; refine ⟨_, rfl, ?_⟩; have n0_ := Aside0.mk (Kd.R_lower ho0 (below_size (by repeat (first | (with_reducible first | exact HB.out | apply below_alloc | apply pw_below_drewN | apply below_drew1) | exact HB.out)))); have n1_ := Aside0.mk (below_step (by repeat (first | (with_reducible first | exact HB.out | apply below_alloc | apply pw_below_drewN | apply below_drew1) | exact HB.out)) hb); clear HB; have HO159 := n0_; have HB := n1_; clear n0_ n1_; (try clear hb); (try clear hb2); (try clear hk); (try clear hi); (try clear ho0)) | ((with_reducible refine gate_callee (f := 5) rfl ?_); refine goesL_ (some 21) rfl rfl Try.func5 (by kernel_rfl) rfl #[.slice A0 l0.length c0] rfl (by (try simp only [List.map_toArray, List.map_cons, List.map_nil]); first | done | rfl | (simp only [List.length_drop, List.length_take]; rfl)) ?_; (with_reducible refine (spec_Sha512.calls k _ _ l0 t160 t161 _ ?side1 ?side2 A4.out).mono ?_); (case side1 => repeat (first | exact (Kd.C_below HR0.out HB.out) | (with_reducible refine Kd.C_alloc ?_ _) | (with_reducible refine Kd.C_drewN ?_ _) | (with_reducible refine Kd.C_drew ?_))); (case side2 => exact HC0.out); rintro e w7 ⟨v162, rfl, ho0, hb⟩; refine ⟨_, rfl, ?_⟩; have n0_ := Aside0.mk (Kd.R_elder' (by (with_reducible repeat (first | apply Kd.R_alloc | apply Kd.R_drewN | apply Kd.R_drew)); exact HO159.out) (Kd.R_base ho0) hb); have n1_ := Aside0.mk (Kd.R_lower (Kd.R_new' ho0 (Kd.R_lt (by (with_reducible repeat (first | apply Kd.R_alloc | apply Kd.R_drewN | apply Kd.R_drew)); exact HO159.out))) (below_size (by repeat (first | (with_reducible first | exact HB.out | apply below_alloc | apply pw_below_drewN | apply below_drew1) | exact HB.out)))); have n2_ := Aside0.mk (below_step (by repeat (first | (with_reducible first | exact HB.out | apply below_alloc | apply pw_below_drewN | apply below_drew1) | exact HB.out)) hb); clear HO159; clear HB; have HO159 := n0_; have HO163 := n1_; have HB := n2_; clear n0_ n1_ n2_; (try clear hb); (try clear hb2); (try clear hk); (try clear hi); (try clear ho0)))
    (try simp only [Act.put, List.setIfInBounds_toArray, List.set_cons_zero, List.set_cons_succ])
    go_cut [37] (fun v37 wc => ∃ (kq : Nat) (x37_4 : Bool), v37 = .bool x37_4 ∧ Aside0 (laws_FnHash.j0 kq t156 x37_4 = some r) ∧ Aside0 (kq ≤ k) ∧ Aside0 (Kd.R (Kd.int .u8) 5 wc w.heap.size (fun _ => True) v158 t156) ∧ Aside0 (Below w.heap.size w wc))
    case first =>
      have H := HC5.out
      clear HC5
      by_cases c8 : t157 = 0
      · rw [if_pos c8] at H
        have c8b0 : (t157 == 0) = true := beq_iff_eq.mpr c8
        have c8b1 : (t157 != 0) = false := bne_eq_false_iff_eq.mpr c8
        clear c8
        (first | rw [c8b0] | (simp only [i64_w, i32_w]; rw [c8b0]) | skip)
        by_cases c9 : (t156.length : Int) = 64
        · rw [if_pos c9] at H
          have c9b0 : ((t156.length : Int) == 64) = true := beq_iff_eq.mpr c9
          have c9b1 : ((t156.length : Int) != 64) = false := bne_eq_false_iff_eq.mpr c9
          clear c9
          have H' := Aside0.mk H
          clear H
          obtain ⟨Ao10, co10, eo10⟩ := Kd.R_slice HO159.out
          subst eo10
          have hcv11 := own_string (P := Try.prog) Try.underlying22 Try.underlying5 Try.underlying9 (Kd.own_of_R HO159.out)
          have hcv12 := own_string (P := Try.prog) Try.underlying22 Try.underlying5 Try.underlying9 (Kd.own_of_R HO163.out)
          go_wp2
          go_meet
          case rel => exact ⟨_, (((strOfNums t156).toList != (strOfNums t160).toList)), (by first | rfl | (simp; done) | (simp [*]; done)), H', ⟨by first | omega | exact Nat.le_refl _⟩, ⟨by (with_reducible repeat (first | apply Kd.R_alloc | apply Kd.R_drewN | apply Kd.R_drew)); exact Kd.R_mono HO159.out (fun _ hk => trivial)⟩, ⟨by repeat (first | (with_reducible first | exact HB.out | apply below_alloc | apply pw_below_drewN | apply below_drew1) | exact HB.out)⟩⟩
        · rw [if_neg c9] at H
          have c9b0 : ((t156.length : Int) == 64) = false := beq_eq_false_iff_ne.mpr c9
          have c9b1 : ((t156.length : Int) != 64) = true := bne_iff_ne.mpr c9
          have H' := Aside0.mk H
          clear H
          obtain ⟨Ao13, co13, eo13⟩ := Kd.R_slice HO159.out
          subst eo13
          go_wp2
          go_meet
          case rel => exact ⟨_, (true), (by first | rfl | (simp; done) | (simp [*]; done)), H', ⟨by first | omega | exact Nat.le_refl _⟩, ⟨by (with_reducible repeat (first | apply Kd.R_alloc | apply Kd.R_drewN | apply Kd.R_drew)); exact Kd.R_mono HO159.out (fun _ hk => trivial)⟩, ⟨by repeat (first | (with_reducible first | exact HB.out | apply below_alloc | apply pw_below_drewN | apply below_drew1) | exact HB.out)⟩⟩
      · rw [if_neg c8] at H
        have c8b0 : (t157 == 0) = false := beq_eq_false_iff_ne.mpr c8
        have c8b1 : (t157 != 0) = true := bne_iff_ne.mpr c8
        (first | rw [c8b0] | (simp only [i64_w, i32_w]; rw [c8b0]) | skip)
        have H' := Aside0.mk H
        clear H
        go_wp2
        go_meet
        case rel => exact ⟨_, (true), (by first | rfl | (simp; done) | (simp [*]; done)), H', ⟨by first | omega | exact Nat.le_refl _⟩, ⟨by (with_reducible repeat (first | apply Kd.R_alloc | apply Kd.R_drewN | apply Kd.R_drew)); exact Kd.R_mono HO159.out (fun _ hk => trivial)⟩, ⟨by repeat (first | (with_reducible first | exact HB.out | apply below_alloc | apply pw_below_drewN | apply below_drew1) | exact HB.out)⟩⟩
    case rest =>
      clear HC5
      try clear hcv1
      try clear c2
      try clear c2b0
      try clear c2b1
      try clear p2
      try clear c4
      try clear c5
      try clear c7
      try clear c8
      try clear c8b0
      try clear c8b1
      try clear c9
      try clear c9b0
      try clear c9b1
      try clear hcv11
      try clear hcv12
      obtain ⟨kq, x37_4, rfl, HA, HJ4, HO_3, HB⟩ := hcut
      cases kq with
      | zero => exact absurd HA.out (by simp [laws_FnHash.j0])
      | succ kj4 =>
        have H := HA.out
        clear HA
        simp only [laws_FnHash.j0] at H
        by_cases c14 : x37_4 = true
        · subst c14
          have H1 : (some false) = some r := by rw [if_pos rfl] at H; exact H
          clear H
          have H := H1
          clear H1
          obtain rfl := Option.some.inj H
          go_wp2
          go_ret
          exact ⟨by first | rfl | (simp [errW_none, errW_some] <;> rfl) | (simp [*, errW_none, errW_some] <;> rfl), by repeat (first | (with_reducible first | exact HB.out | apply below_alloc | apply pw_below_drewN | apply below_drew1) | exact HB.out)⟩
        · replace c14 := Bool.eq_false_iff.mpr c14
          subst c14
          have H1 : ((impl_ScalarOf.f t156).bind fun bt164 => ((impl_ScalarOf.f bt164.1).bind fun bt168 => (if bt164.2 = 0 then (if bt168.2 = 0 then (if (bt164.1.length : Int) = 32 then (some ((strOfNums bt168.1).toList == (strOfNums bt164.1).toList)) else (some false)) else (some false)) else (some false)))) = some r := by rw [if_neg (show ¬ (false = true) by decide)] at H; exact H
          clear H
          have H := H1
          clear H1
          replace H := Option.bind_eq_some_iff.mp H
          obtain ⟨⟨t164, t165⟩, A150, H⟩ := H
          replace H : ((impl_ScalarOf.f t164).bind fun bt168 => (if t165 = 0 then (if bt168.2 = 0 then (if (t164.length : Int) = 32 then (some ((strOfNums bt168.1).toList == (strOfNums t164).toList)) else (some false)) else (some false)) else (some false))) = some r := H
          have A15 := Aside0.mk A150
          clear A150
          replace H := Option.bind_eq_some_iff.mp H
          obtain ⟨⟨t168, t169⟩, A160, H⟩ := H
          replace H : (if t165 = 0 then (if t169 = 0 then (if (t164.length : Int) = 32 then (some ((strOfNums t168).toList == (strOfNums t164).toList)) else (some false)) else (some false)) else (some false)) = some r := H
          have A16 := Aside0.mk A160
          clear A160
          by_cases c17 : t165 = 0
          · rw [if_pos c17] at H
            have c17b0 : (t165 == 0) = true := beq_iff_eq.mpr c17
            have c17b1 : (t165 != 0) = false := bne_eq_false_iff_eq.mpr c17
            clear c17
            by_cases c18 : t169 = 0
            · rw [if_pos c18] at H
              have c18b0 : (t169 == 0) = true := beq_iff_eq.mpr c18
              have c18b1 : (t169 != 0) = false := bne_eq_false_iff_eq.mpr c18
              clear c18
              by_cases c19 : (t164.length : Int) = 32
              · rw [if_pos c19] at H
                have c19b0 : ((t164.length : Int) == 32) = true := beq_iff_eq.mpr c19
                have c19b1 : ((t164.length : Int) != 32) = false := bne_eq_false_iff_eq.mpr c19
                clear c19
                obtain rfl := Option.some.inj H
                obtain ⟨Ao20, co20, eo20⟩ := Kd.R_slice HO_3.out
                subst eo20
                go_wp2_with (first | ((with_reducible refine gate_callee (f := 11) rfl ?_); refine goesL_ (some 40) rfl rfl Try.func11 (by kernel_rfl) rfl #[.slice Ao20 t156.length co20] rfl (by (try simp only [List.map_toArray, List.map_cons, List.map_nil]); first | done | rfl | (simp only [List.length_drop, List.length_take]; rfl)) ?_; (with_reducible refine (impl_ScalarOf.calls _ _ t156 t164 t165 _ ?side1 ?side2 A15.out).mono ?_); (case side1 => repeat (first | exact (Kd.R_reads' HO_3.out).2.2 | (with_reducible refine Kd.C_alloc ?_ _) | (with_reducible refine Kd.C_drewN ?_ _) | (with_reducible refine Kd.C_drew ?_))); (case side2 => exact (Kd.R_reads' HO_3.out).2.1); rintro e w21 ⟨v166, rfl, ho0, hb⟩; refine ⟨_, rfl, ?_⟩; have n0_ := Aside0.mk (Kd.R_elder' (by (with_reducible repeat (first | apply Kd.R_alloc | apply Kd.R_drewN | apply Kd.R_drew)); exact HO_3.out) (Kd.R_base ho0) hb); have n1_ := Aside0.mk (Kd.R_lower (Kd.R_new' ho0 (Kd.R_lt (by (with_reducible repeat (first | apply Kd.R_alloc | apply Kd.R_drewN | apply Kd.R_drew)); exact HO_3.out))) (below_size (by repeat (first | (with_reducible first | exact HB.out | apply below_alloc | apply pw_below_drewN | apply below_drew1) | exact HB.out)))); have n2_ := Aside0.mk (below_step (by repeat (first | (with_reducible first | exact HB.out | apply below_alloc | apply pw_below_drewN | apply below_drew1) | exact HB.out)) hb); clear HO_3; clear HB; have HO_3 := n0_; have HO167 := n1_; have HB := n2_; clear n0_ n1_ n2_; (try clear hb); (try clear hb2); (try clear hk); (try clear hi); (try clear ho0); obtain ⟨Ao22, co22, eo22⟩ := Kd.R_slice HO167.out; subst eo22) | ((with_reducible refine gate_callee (f := 11) rfl ?_); refine goesL_ (some 45) rfl rfl Try.func11 (by kernel_rfl) rfl #[.slice Ao22 t164.length co22] rfl (by (try simp only [List.map_toArray, List.map_cons, List.map_nil]); first | done | rfl | (simp only [List.length_drop, List.length_take]; rfl)) ?_; (with_reducible refine (impl_ScalarOf.calls _ _ t164 t168 t169 _ ?side1 ?side2 A16.out).mono ?_); (case side1 => repeat (first | exact (Kd.R_reads' HO167.out).2.2 | (with_reducible refine Kd.C_alloc ?_ _) | (with_reducible refine Kd.C_drewN ?_ _) | (with_reducible refine Kd.C_drew ?_))); (case side2 => exact (Kd.R_reads' HO167.out).2.1); rintro e w23 ⟨v170, rfl, ho0, hb⟩; refine ⟨_, rfl, ?_⟩; have n0_ := Aside0.mk (Kd.R_elder' (by (with_reducible repeat (first | apply Kd.R_alloc | apply Kd.R_drewN | apply Kd.R_drew)); exact HO_3.out) (Kd.R_base ho0) hb); have n1_ := Aside0.mk (Kd.R_elder' (by (with_reducible repeat (first | apply Kd.R_alloc | apply Kd.R_drewN | apply Kd.R_drew)); exact HO167.out) (Kd.R_base ho0) hb); have n2_ := Aside0.mk (Kd.R_lower (Kd.R_new' (Kd.R_new' ho0 (Kd.R_lt (by (with_reducible repeat (first | apply Kd.R_alloc | apply Kd.R_drewN | apply Kd.R_drew)); exact HO_3.out))) (Kd.R_lt (by (with_reducible repeat (first | apply Kd.R_alloc | apply Kd.R_drewN | apply Kd.R_drew)); exact HO167.out))) (below_size (by repeat (first | (with_reducible first | exact HB.out | apply below_alloc | apply pw_below_drewN | apply below_drew1) | exact HB.out)))); have n3_ := Aside0.mk (below_step (by repeat (first | (with_reducible first | exact HB.out | apply below_alloc | apply pw_below_drewN | apply below_drew1) | exact HB.out)) hb); clear HO_3; clear HO167; clear HB; have HO_3 := n0_; have HO167 := n1_; have HO171 := n2_; have HB := n3_; clear n0_ n1_ n2_ n3_; (try clear hb); (try clear hb2); (try clear hk); (try clear hi); (try clear ho0); have hcv24 := own_string (P := Try.prog) Try.underlying22 Try.underlying5 Try.underlying9 (Kd.own_of_R HO171.out); have hcv25 := own_string (P := Try.prog) Try.underlying22 Try.underlying5 Try.underlying9 (Kd.own_of_R HO167.out)))
                go_ret
                exact ⟨by first | rfl | (simp [errW_none, errW_some] <;> rfl) | (simp [*, errW_none, errW_some] <;> rfl), by repeat (first | (with_reducible first | exact HB.out | apply below_alloc | apply pw_below_drewN | apply below_drew1) | exact HB.out)⟩
              · rw [if_neg c19] at H
                have c19b0 : ((t164.length : Int) == 32) = false := beq_eq_false_iff_ne.mpr c19
                have c19b1 : ((t164.length : Int) != 32) = true := bne_iff_ne.mpr c19
                obtain rfl := Option.some.inj H
                obtain ⟨Ao26, co26, eo26⟩ := Kd.R_slice HO_3.out
                subst eo26
                go_wp2_with (first | ((with_reducible refine gate_callee (f := 11) rfl ?_); refine goesL_ (some 40) rfl rfl Try.func11 (by kernel_rfl) rfl #[.slice Ao26 t156.length co26] rfl (by (try simp only [List.map_toArray, List.map_cons, List.map_nil]); first | done | rfl | (simp only [List.length_drop, List.length_take]; rfl)) ?_; (with_reducible refine (impl_ScalarOf.calls _ _ t156 t164 t165 _ ?side1 ?side2 A15.out).mono ?_); (case side1 => repeat (first | exact (Kd.R_reads' HO_3.out).2.2 | (with_reducible refine Kd.C_alloc ?_ _) | (with_reducible refine Kd.C_drewN ?_ _) | (with_reducible refine Kd.C_drew ?_))); (case side2 => exact (Kd.R_reads' HO_3.out).2.1); rintro e w27 ⟨v166, rfl, ho0, hb⟩; refine ⟨_, rfl, ?_⟩; have n0_ := Aside0.mk (Kd.R_elder' (by (with_reducible repeat (first | apply Kd.R_alloc | apply Kd.R_drewN | apply Kd.R_drew)); exact HO_3.out) (Kd.R_base ho0) hb); have n1_ := Aside0.mk (Kd.R_lower (Kd.R_new' ho0 (Kd.R_lt (by (with_reducible repeat (first | apply Kd.R_alloc | apply Kd.R_drewN | apply Kd.R_drew)); exact HO_3.out))) (below_size (by repeat (first | (with_reducible first | exact HB.out | apply below_alloc | apply pw_below_drewN | apply below_drew1) | exact HB.out)))); have n2_ := Aside0.mk (below_step (by repeat (first | (with_reducible first | exact HB.out | apply below_alloc | apply pw_below_drewN | apply below_drew1) | exact HB.out)) hb); clear HO_3; clear HB; have HO_3 := n0_; have HO167 := n1_; have HB := n2_; clear n0_ n1_ n2_; (try clear hb); (try clear hb2); (try clear hk); (try clear hi); (try clear ho0); obtain ⟨Ao28, co28, eo28⟩ := Kd.R_slice HO167.out; subst eo28) | ((with_reducible refine gate_callee (f := 11) rfl ?_); refine goesL_ (some 45) rfl rfl Try.func11 (by kernel_rfl) rfl #[.slice Ao28 t164.length co28] rfl (by (try simp only [List.map_toArray, List.map_cons, List.map_nil]); first | done | rfl | (simp only [List.length_drop, List.length_take]; rfl)) ?_; (with_reducible refine (impl_ScalarOf.calls _ _ t164 t168 t169 _ ?side1 ?side2 A16.out).mono ?_); (case side1 => repeat (first | exact (Kd.R_reads' HO167.out).2.2 | (with_reducible refine Kd.C_alloc ?_ _) | (with_reducible refine Kd.C_drewN ?_ _) | (with_reducible refine Kd.C_drew ?_))); (case side2 => exact (Kd.R_reads' HO167.out).2.1); rintro e w29 ⟨v170, rfl, ho0, hb⟩; refine ⟨_, rfl, ?_⟩; have n0_ := Aside0.mk (Kd.R_elder' (by (with_reducible repeat (first | apply Kd.R_alloc | apply Kd.R_drewN | apply Kd.R_drew)); exact HO_3.out) (Kd.R_base ho0) hb); have n1_ := Aside0.mk (Kd.R_elder' (by (with_reducible repeat (first | apply Kd.R_alloc | apply Kd.R_drewN | apply Kd.R_drew)); exact HO167.out) (Kd.R_base ho0) hb); have n2_ := Aside0.mk (Kd.R_lower (Kd.R_new' (Kd.R_new' ho0 (Kd.R_lt (by (with_reducible repeat (first | apply Kd.R_alloc | apply Kd.R_drewN | apply Kd.R_drew)); exact HO_3.out))) (Kd.R_lt (by (with_reducible repeat (first | apply Kd.R_alloc | apply Kd.R_drewN | apply Kd.R_drew)); exact HO167.out))) (below_size (by repeat (first | (with_reducible first | exact HB.out | apply below_alloc | apply pw_below_drewN | apply below_drew1) | exact HB.out)))); have n3_ := Aside0.mk (below_step (by repeat (first | (with_reducible first | exact HB.out | apply below_alloc | apply pw_below_drewN | apply below_drew1) | exact HB.out)) hb); clear HO_3; clear HO167; clear HB; have HO_3 := n0_; have HO167 := n1_; have HO171 := n2_; have HB := n3_; clear n0_ n1_ n2_ n3_; (try clear hb); (try clear hb2); (try clear hk); (try clear hi); (try clear ho0)))
                go_ret
                exact ⟨by first | rfl | (simp [errW_none, errW_some] <;> rfl) | (simp [*, errW_none, errW_some] <;> rfl), by repeat (first | (with_reducible first | exact HB.out | apply below_alloc | apply pw_below_drewN | apply below_drew1) | exact HB.out)⟩
            · rw [if_neg c18] at H
              have c18b0 : (t169 == 0) = false := beq_eq_false_iff_ne.mpr c18
              have c18b1 : (t169 != 0) = true := bne_iff_ne.mpr c18
              obtain rfl := Option.some.inj H
              obtain ⟨Ao30, co30, eo30⟩ := Kd.R_slice HO_3.out
              subst eo30
              go_wp2_with (first | ((with_reducible refine gate_callee (f := 11) rfl ?_); refine goesL_ (some 40) rfl rfl Try.func11 (by kernel_rfl) rfl #[.slice Ao30 t156.length co30] rfl (by (try simp only [List.map_toArray, List.map_cons, List.map_nil]); first | done | rfl | (simp only [List.length_drop, List.length_take]; rfl)) ?_; (with_reducible refine (impl_ScalarOf.calls _ _ t156 t164 t165 _ ?side1 ?side2 A15.out).mono ?_); (case side1 => repeat (first | exact (Kd.R_reads' HO_3.out).2.2 | (with_reducible refine Kd.C_alloc ?_ _) | (with_reducible refine Kd.C_drewN ?_ _) | (with_reducible refine Kd.C_drew ?_))); (case side2 => exact (Kd.R_reads' HO_3.out).2.1); rintro e w31 ⟨v166, rfl, ho0, hb⟩; refine ⟨_, rfl, ?_⟩; have n0_ := Aside0.mk (Kd.R_elder' (by (with_reducible repeat (first | apply Kd.R_alloc | apply Kd.R_drewN | apply Kd.R_drew)); exact HO_3.out) (Kd.R_base ho0) hb); have n1_ := Aside0.mk (Kd.R_lower (Kd.R_new' ho0 (Kd.R_lt (by (with_reducible repeat (first | apply Kd.R_alloc | apply Kd.R_drewN | apply Kd.R_drew)); exact HO_3.out))) (below_size (by repeat (first | (with_reducible first | exact HB.out | apply below_alloc | apply pw_below_drewN | apply below_drew1) | exact HB.out)))); have n2_ := Aside0.mk (below_step (by repeat (first | (with_reducible first | exact HB.out | apply below_alloc | apply pw_below_drewN | apply below_drew1) | exact HB.out)) hb); clear HO_3; clear HB; have HO_3 := n0_; have HO167 := n1_; have HB := n2_; clear n0_ n1_ n2_; (try clear hb); (try clear hb2); (try clear hk); (try clear hi); (try clear ho0); obtain ⟨Ao32, co32, eo32⟩ := Kd.R_slice HO167.out; subst eo32) | ((with_reducible refine gate_callee (f := 11) rfl ?_); refine goesL_ (some 45) rfl rfl Try.func11 (by kernel_rfl) rfl #[.slice Ao32 t164.length co32] rfl (by (try simp only [List.map_toArray, List.map_cons, List.map_nil]); first | done | rfl | (simp only [List.length_drop, List.length_take]; rfl)) ?_; (with_reducible refine (impl_ScalarOf.calls _ _ t164 t168 t169 _ ?side1 ?side2 A16.out).mono ?_); (case side1 => repeat (first | exact (Kd.R_reads' HO167.out).2.2 | (with_reducible refine Kd.C_alloc ?_ _) | (with_reducible refine Kd.C_drewN ?_ _) | (with_reducible refine Kd.C_drew ?_))); (case side2 => exact (Kd.R_reads' HO167.out).2.1); rintro e w33 ⟨v170, rfl, ho0, hb⟩; refine ⟨_, rfl, ?_⟩; have n0_ := Aside0.mk (Kd.R_elder' (by (with_reducible repeat (first | apply Kd.R_alloc | apply Kd.R_drewN | apply Kd.R_drew)); exact HO_3.out) (Kd.R_base ho0) hb); have n1_ := Aside0.mk (Kd.R_elder' (by (with_reducible repeat (first | apply Kd.R_alloc | apply Kd.R_drewN | apply Kd.R_drew)); exact HO167.out) (Kd.R_base ho0) hb); have n2_ := Aside0.mk (Kd.R_lower (Kd.R_new' (Kd.R_new' ho0 (Kd.R_lt (by (with_reducible repeat (first | apply Kd.R_alloc | apply Kd.R_drewN | apply Kd.R_drew)); exact HO_3.out))) (Kd.R_lt (by (with_reducible repeat (first | apply Kd.R_alloc | apply Kd.R_drewN | apply Kd.R_drew)); exact HO167.out))) (below_size (by repeat (first | (with_reducible first | exact HB.out | apply below_alloc | apply pw_below_drewN | apply below_drew1) | exact HB.out)))); have n3_ := Aside0.mk (below_step (by repeat (first | (with_reducible first | exact HB.out | apply below_alloc | apply pw_below_drewN | apply below_drew1) | exact HB.out)) hb); clear HO_3; clear HO167; clear HB; have HO_3 := n0_; have HO167 := n1_; have HO171 := n2_; have HB := n3_; clear n0_ n1_ n2_ n3_; (try clear hb); (try clear hb2); (try clear hk); (try clear hi); (try clear ho0)))
              go_ret
              exact ⟨by first | rfl | (simp [errW_none, errW_some] <;> rfl) | (simp [*, errW_none, errW_some] <;> rfl), by repeat (first | (with_reducible first | exact HB.out | apply below_alloc | apply pw_below_drewN | apply below_drew1) | exact HB.out)⟩
          · rw [if_neg c17] at H
            have c17b0 : (t165 == 0) = false := beq_eq_false_iff_ne.mpr c17
            have c17b1 : (t165 != 0) = true := bne_iff_ne.mpr c17
            obtain rfl := Option.some.inj H
            obtain ⟨Ao34, co34, eo34⟩ := Kd.R_slice HO_3.out
            subst eo34
            go_wp2_with (first | ((with_reducible refine gate_callee (f := 11) rfl ?_); refine goesL_ (some 40) rfl rfl Try.func11 (by kernel_rfl) rfl #[.slice Ao34 t156.length co34] rfl (by (try simp only [List.map_toArray, List.map_cons, List.map_nil]); first | done | rfl | (simp only [List.length_drop, List.length_take]; rfl)) ?_; (with_reducible refine (impl_ScalarOf.calls _ _ t156 t164 t165 _ ?side1 ?side2 A15.out).mono ?_); (case side1 => repeat (first | exact (Kd.R_reads' HO_3.out).2.2 | (with_reducible refine Kd.C_alloc ?_ _) | (with_reducible refine Kd.C_drewN ?_ _) | (with_reducible refine Kd.C_drew ?_))); (case side2 => exact (Kd.R_reads' HO_3.out).2.1); rintro e w35 ⟨v166, rfl, ho0, hb⟩; refine ⟨_, rfl, ?_⟩; have n0_ := Aside0.mk (Kd.R_elder' (by (with_reducible repeat (first | apply Kd.R_alloc | apply Kd.R_drewN | apply Kd.R_drew)); exact HO_3.out) (Kd.R_base ho0) hb); have n1_ := Aside0.mk (Kd.R_lower (Kd.R_new' ho0 (Kd.R_lt (by (with_reducible repeat (first | apply Kd.R_alloc | apply Kd.R_drewN | apply Kd.R_drew)); exact HO_3.out))) (below_size (by repeat (first | (with_reducible first | exact HB.out | apply below_alloc | apply pw_below_drewN | apply below_drew1) | exact HB.out)))); have n2_ := Aside0.mk (below_step (by repeat (first | (with_reducible first | exact HB.out | apply below_alloc | apply pw_below_drewN | apply below_drew1) | exact HB.out)) hb); clear HO_3; clear HB; have HO_3 := n0_; have HO167 := n1_; have HB := n2_; clear n0_ n1_ n2_; (try clear hb); (try clear hb2); (try clear hk); (try clear hi); (try clear ho0); obtain ⟨Ao36, co36, eo36⟩ := Kd.R_slice HO167.out; subst eo36) | ((with_reducible refine gate_callee (f := 11) rfl ?_); refine goesL_ (some 45) rfl rfl Try.func11 (by kernel_rfl) rfl #[.slice Ao36 t164.length co36] rfl (by (try simp only [List.map_toArray, List.map_cons, List.map_nil]); first | done | rfl | (simp only [List.length_drop, List.length_take]; rfl)) ?_; (with_reducible refine (impl_ScalarOf.calls _ _ t164 t168 t169 _ ?side1 ?side2 A16.out).mono ?_); (case side1 => repeat (first | exact (Kd.R_reads' HO167.out).2.2 | (with_reducible refine Kd.C_alloc ?_ _) | (with_reducible refine Kd.C_drewN ?_ _) | (with_reducible refine Kd.C_drew ?_))); (case side2 => exact (Kd.R_reads' HO167.out).2.1); rintro e w37 ⟨v170, rfl, ho0, hb⟩; refine ⟨_, rfl, ?_⟩; have n0_ := Aside0.mk (Kd.R_elder' (by (with_reducible repeat (first | apply Kd.R_alloc | apply Kd.R_drewN | apply Kd.R_drew)); exact HO_3.out) (Kd.R_base ho0) hb); have n1_ := Aside0.mk (Kd.R_elder' (by (with_reducible repeat (first | apply Kd.R_alloc | apply Kd.R_drewN | apply Kd.R_drew)); exact HO167.out) (Kd.R_base ho0) hb); have n2_ := Aside0.mk (Kd.R_lower (Kd.R_new' (Kd.R_new' ho0 (Kd.R_lt (by (with_reducible repeat (first | apply Kd.R_alloc | apply Kd.R_drewN | apply Kd.R_drew)); exact HO_3.out))) (Kd.R_lt (by (with_reducible repeat (first | apply Kd.R_alloc | apply Kd.R_drewN | apply Kd.R_drew)); exact HO167.out))) (below_size (by repeat (first | (with_reducible first | exact HB.out | apply below_alloc | apply pw_below_drewN | apply below_drew1) | exact HB.out)))); have n3_ := Aside0.mk (below_step (by repeat (first | (with_reducible first | exact HB.out | apply below_alloc | apply pw_below_drewN | apply below_drew1) | exact HB.out)) hb); clear HO_3; clear HO167; clear HB; have HO_3 := n0_; have HO167 := n1_; have HO171 := n2_; have HB := n3_; clear n0_ n1_ n2_ n3_; (try clear hb); (try clear hb2); (try clear hk); (try clear hi); (try clear ho0)))
            go_ret
            exact ⟨by first | rfl | (simp [errW_none, errW_some] <;> rfl) | (simp [*, errW_none, errW_some] <;> rfl), by repeat (first | (with_reducible first | exact HB.out | apply below_alloc | apply pw_below_drewN | apply below_drew1) | exact HB.out)⟩

/-- THE ONE PURE STATEMENT of laws_FnHash: yours. -/
def laws_FnHash.Pure : Prop := ∀ (l0 : List Int), l0.length ≤ maxLen → l0.length * 1 ≤ 140737488351232 → (∀ x ∈ l0, (Lit.int .u8 x).wf = true) → ∃ k, laws_FnHash.f k l0 = some true
theorem laws_FnHash.walk (P : laws_FnHash.Pure) (a0 : Option Addr) (len0 cap0 : Nat) (z0 : List Int) (w : World) (w0 : (a0 = none ∧ len0 = 0 ∧ cap0 = 0 ∧ z0 = []) ∨ ∃ x, a0 = some x ∧ len0 ≤ cap0 ∧ cap0 ≤ maxLen ∧ z0.length = cap0 ∧ (∀ i, i < z0.length → w.cell? (x.add i) = some (.int .u8 (z0.getD i 0))) ∧ ∀ n ∈ z0, (Lit.int .u8 n).wf = true) (y0 : len0 * 1 ≤ 140737488351232) :
    Calls Try.prog 4 #[.slice a0 len0 cap0] w fun e w' => e = .returned (.bool true) ∧ Below w.heap.size w w' := by
  obtain ⟨l0, rfl, hr0, hm0, hw0, hc0⟩ := ReadsInt.ofRowC w0
  obtain ⟨k, h⟩ := P l0 hm0 y0 hw0
  refine (laws_FnHash.calls k _ _ l0 true w (Kd.C_of_reads (d := (0 : Int)) (h1 := fun _ => rfl) hr0) hc0 h).mono ?_
  rintro e w' ⟨rfl, hd⟩
  exact ⟨rfl, hd⟩

end Go.Proofs.Ytlphppkhihabdaa.XN
