-- Written by a program of this session (xp.py over the kit's printer, with functions proved by hand). Lean checks it.
import Derived.Test.YtijeackkgcnbgaaXOx0
import Derived.Test.YtijeackkgcnbgaaXOx5
import Derived.Test.YtijeackkgcnbgaaXOx6
namespace Go.Proofs.Ytijeackkgcnbgaa.XO
open Go.Proofs.Ytijeackkgcnbgaa.Limb Go.Proofs.Ytijeackkgcnbgaa.Arr Go.Proofs.Ytijeackkgcnbgaa.FldA Go.Proofs.Ytijeackkgcnbgaa.FldB Go.Proofs.Ytijeackkgcnbgaa.FldC Go.Proofs.Ytijeackkgcnbgaa.FldS Go.Proofs.Ytijeackkgcnbgaa.FldP Go.Proofs.Ytijeackkgcnbgaa.FldW Go.Proofs.Ytijeackkgcnbgaa.FldM Go.Proofs.Ytijeackkgcnbgaa.FldT Go.Proofs.Ytijeackkgcnbgaa.FldRoot Go.Proofs.Ytijeackkgcnbgaa.FldRoot2 Go.Proofs.Ytijeackkgcnbgaa.FldPt Go.Proofs.Ytijeackkgcnbgaa.St Go.Proofs.Ytijeackkgcnbgaa.StOps Go.Proofs.Ytijeackkgcnbgaa.StMid Go.Proofs.Ytijeackkgcnbgaa.StEq Go.Proofs.Ytijeackkgcnbgaa.StPt Go.Proofs.Ytijeackkgcnbgaa.StIdx
open Go.RowKit Go.Proofs.YtijeackkgcnbgaaW.PrintWords Go.Proofs.YtijeackkgcnbgaaW.PrintLast Go.Proofs.YtijeackkgcnbgaaW.PrintMore
attribute [local go_sem] max2_int min2_int max_two min_two max_three min_three max_four min_four   -- for this text's walks alone
set_option linter.unusedVariables false
set_option linter.unusedSimpArgs false

/-! ### impl_wide_reduced: function 92 -/
set_option maxHeartbeats 1000000 in
set_option maxRecDepth 100000 in
theorem impl_wide_reduced.calls (W : Nat) (w : World) (hW : W < BB * BB) :
    Calls Try.prog 92 #[.agg (arr .u64 (wid W))] w fun e w' => e = .returned (.agg (arr .u64 (num (W % PP)))) ∧ Below w.heap.size w w' := by
  obtain ⟨H, hH⟩ : ∃ H, H = W / BB := ⟨_, rfl⟩
  obtain ⟨X, hX⟩ : ∃ X, X = H * 38 := ⟨_, rfl⟩
  obtain ⟨q, hq⟩ : ∃ q, q = X / BB := ⟨_, rfl⟩
  obtain ⟨c1, hc1⟩ : ∃ c1, c1 = (W % BB + X % BB) / BB := ⟨_, rfl⟩
  obtain ⟨l1, hl1⟩ : ∃ l1, l1 = (W % BB + X % BB) % BB := ⟨_, rfl⟩
  obtain ⟨m, hm⟩ : ∃ m, m = (q + c1) * 38 := ⟨_, rfl⟩
  obtain ⟨c2, hc2⟩ : ∃ c2, c2 = (l1 + m) / BB := ⟨_, rfl⟩
  obtain ⟨l2, hl2⟩ : ∃ l2, l2 = (l1 + m) % BB := ⟨_, rfl⟩
  obtain ⟨m2, hm2⟩ : ∃ m2, m2 = 38 * c2 := ⟨_, rfl⟩
  have hBp : 0 < BB := by decide
  have rr := red_ranges W hW
  rw [← hH, ← hX, ← hq, ← hc1] at rr
  obtain ⟨rH, rq, rc1⟩ := rr
  have rm : m ≤ 2000 := by rw [hm]; omega
  have rl1 : l1 < BB := by rw [hl1]; exact Nat.mod_lt _ hBp
  have rl2 : l2 < BB := by rw [hl2]; exact Nat.mod_lt _ hBp
  have rmB : m < BB := Nat.lt_of_le_of_lt rm (by decide)
  have rc2 : c2 < 2 := by
    rw [hc2, Nat.div_lt_iff_lt_mul hBp]; omega
  have HSUM := red_sum (W % BB) H q c1 c2 l1 l2 (X % BB) m (by rw [← hX, hq]; have := Nat.div_add_mod X BB; omega) (by rw [hl1, hc1]; have := Nat.div_add_mod (W % BB + X % BB) BB; omega) hm (by rw [hl2, hc2]; have := Nat.div_add_mod (l1 + m) BB; omega) rl1 rl2 rm
  rw [← hm2, hH, Nat.mod_add_div] at HSUM
  obtain ⟨hs1, hs2⟩ := HSUM
  have HS38 := Aside0.mk (fun W' => (show Calls Try.prog 95 #[.int .u64 38] W' _ from impl_small.calls 38 W' (by decide)))
  have HT := Aside0.mk (fun W' => impl_number_times.calls H 38 W' rH (by decide))
  rw [← hX] at HT
  have HP1 := Aside0.mk (fun W' => impl_number_plus.calls W X W')
  rw [b4, ← hc1, ← num_mod (W + X), Nat.add_mod, ← hl1] at HP1
  have HS1 := Aside0.mk (fun W' => impl_small.calls m W' (by omega))
  have HP2 := Aside0.mk (fun W' => impl_number_plus.calls l1 m W')
  rw [b4, Nat.mod_eq_of_lt rl1, Nat.mod_eq_of_lt rmB, ← hc2, ← num_mod (l1 + m), ← hl2] at HP2
  have HS2 := Aside0.mk (fun W' => impl_small.calls m2 W' (by omega))
  obtain ⟨cv, HP3⟩ : ∃ cv : Value, Aside0 (∀ W', Calls Try.prog 82 #[.agg (arr .u64 (num l2)), .agg (arr .u64 (num m2))] W' fun e w' => e = .returned (.tuple #[.agg (arr .u64 (num (l2 + m2))), cv]) ∧ Below W'.heap.size W' w') := ⟨_, ⟨fun W' => impl_number_plus.calls l2 m2 W'⟩⟩
  have HQ := Aside0.mk (fun W' => impl_number_reduced.calls (l2 + m2) W')
  rw [Nat.mod_eq_of_lt hs1, hs2] at HQ
  have HW4 := Aside0.mk (show num (W / P64 ^ 4) = num H by rw [b4, hH])
  have hwt := wid_top X (by rw [← hq]; exact rq)
  rw [← hq] at hwt
  have HWT := Aside0.mk hwt
  have i1 : (q : Int) + (c1 : Int) = ((q + c1 : Nat) : Int) := by omega
  have i2 : ((q + c1 : Nat) : Int) * 38 = (m : Int) := by rw [hm]; omega
  have i3 : 38 * (c2 : Int) = (m2 : Int) := by rw [hm2]; omega
  have i4 : (m2 : Int) < 100 := by omega
  have i7 : IntKind.u64.wrap (m2 : Int) = (m2 : Int) := by rw [IntKind.wrap_u64]; omega
  have i5 : (m : Int) ≤ 2000 := by omega
  have i6 : ((q + c1 : Nat) : Int) < 100 := by omega
  generalize q + c1 = qc at *
  generalize W % PP = r at *
  clear hwt hs1 hs2 rc2 rmB rl2 rl1 rm rH rq rc1 hBp hm2 hl2 hc2 hm hl1 hc1 hq hX hH hW
  have S := Aside0.mk (((St.start w).push rfl 74 .u64 (wid W)).push (World.size_alloc ..) 44 .u64 z4)
  have hat := fun (a : Option Addr) (c : Nat) W => run_arrayAt (P := Try.prog) W 36 34 4 a 4 c Try.underlying36 (by decide)
  go_enter Try.func92, Try.ntmps92
  go_wp2
  refine abs_world (bs := [⟨74, .u64, wid W⟩, ⟨44, .u64, z4⟩]) S.out ?_
  clear S
  intro W0 hS
  have T := Aside0.mk hS.drew
  clear hS
  refine start_ (n := 10) (S := fun w' => St w [⟨74, .u64, wid W⟩, ⟨44, .u64, z4⟩] w') (ds := []) #[false, false, false, false, false, false, false, false, false, false] (by kernel_rfl) rfl rfl (T.out) (fun hHeld => ?_)
  refine pure_ (i := 0) (N := some 8) (v := ?_) (a' := ?_) #[true, false, false, false, false, false, false, false, false, false] rfl rfl (by kernel_rfl) (fun _ _ _ h => h) (Or.inl ⟨by rfl, ?_⟩) ?_ ?_
  rotate_left
  · intro w'; go_simp; with_reducible rfl
  rotate_left
  · simp only [Act.put, OpenRow.s1, OpenRow.s2, OpenRow.s3, i64_w, i32_w]; rfl
  refine pure_ (i := 1) (N := some 9) (v := ?_) (a' := ?_) #[true, true, false, false, false, false, false, false, false, false] rfl rfl (by kernel_rfl) (fun _ _ _ h => h) (Or.inl ⟨by rfl, ?_⟩) ?_ ?_
  rotate_left
  · intro w'; go_simp; with_reducible rfl
  rotate_left
  · simp only [Act.put, OpenRow.s1, OpenRow.s2, OpenRow.s3, i64_w, i32_w]; rfl
  refine pure_ (i := 3) (N := some 11) (v := ?_) (a' := ?_) #[true, true, false, true, false, false, false, false, false, false] rfl rfl (by kernel_rfl) (fun _ _ _ h => h) (Or.inl ⟨by rfl, ?_⟩) ?_ ?_
  rotate_left
  · intro w'; go_simp; with_reducible rfl
  rotate_left
  · simp only [Act.put, OpenRow.s1, OpenRow.s2, OpenRow.s3, i64_w, i32_w]; rfl
  refine pure_ (i := 4) (N := some 12) (v := ?_) (a' := ?_) #[true, true, false, true, true, false, false, false, false, false] rfl rfl (by kernel_rfl) (fun _ _ _ h => h) (Or.inl ⟨by rfl, ?_⟩) ?_ ?_
  rotate_left
  · intro w'; go_simp; with_reducible rfl
  rotate_left
  · simp only [Act.put, OpenRow.s1, OpenRow.s2, OpenRow.s3, i64_w, i32_w]; rfl
  refine take_ (i := 2) (N := some 10) (v := ?_) (a' := ?_) #[true, true, true, true, true, false, false, false, false, false] rfl rfl (by kernel_rfl) (fun _ _ _ h => h) (Or.inl ⟨by rfl, ?_⟩) hHeld ?_ ?_
  rotate_left
  · intro w' s0
    refine (run_ldm 36 (.tmp 9) (by rfl) w.heap.size 0 (by rfl) (num W) (s0.blk 0 rfl) (wid_low W) Try.underlying36 (m := 4) (by kernel_rfl) (num_length _)).trans ?_; with_reducible rfl
  rotate_left
  · simp only [Act.put, OpenRow.s1, OpenRow.s2, OpenRow.s3, i64_w, i32_w]; rfl
  refine take_ (i := 5) (N := some 13) (v := ?_) (a' := ?_) #[true, true, true, true, true, true, false, false, false, false] rfl rfl (by kernel_rfl) (fun _ _ _ h => h) (Or.inl ⟨by rfl, ?_⟩) hHeld ?_ ?_
  rotate_left
  · intro w' s0
    refine (run_ldm 36 (.tmp 12) (by rfl) w.heap.size 4 (by rfl) (num (W / P64 ^ 4)) (s0.blk 0 rfl) (wid_high W) Try.underlying36 (m := 4) (by kernel_rfl) (num_length _)).trans ?_; with_reducible rfl
  rotate_left
  · simp only [Act.put, OpenRow.s1, OpenRow.s2, OpenRow.s3, i64_w, i32_w]; rfl
  refine join_ (σ := Nat × Nat) 2 #[true, true, true, true, true, true, true, true, false, false] (fun s_ => [(3, .pointer (some ⟨s_.1, 0, none⟩)), (4, .pointer (some ⟨s_.2, 0, none⟩))]) (fun s_ w' => (St w [⟨74, .u64, wid W⟩, ⟨44, .u64, z4⟩] w') ∧ w'.heap[s_.1]? = some (.cells (arr .u64 z4) 36 (0, 0)) ∧ w'.heap[s_.2]? = some (.cells (arr .u64 z4) 36 (0, 0)) ∧ w.heap.size + 2 ≤ s_.1 ∧ w.heap.size + 2 ≤ s_.2 ∧ s_.1 ≠ s_.2) ?_ ?_
  rotate_left
  · intro hCont
    refine two_ (i := 6) (j := 7) (Ni := some 3) (Nj := some 4) #[true, true, true, true, true, true, true, false, false, false] #[true, true, true, true, true, true, false, true, false, false] rfl rfl rfl rfl (by kernel_rfl) (by decide) (by decide) (fun K hK => ?_) (fun K hK => ?_)
    · skip
      refine value_ (w1 := ?_) (v := ?_) (by rfl) rfl ?_ ?_
      rotate_left 2
      · go_simp
        constructor
        · rfl
        · rfl
      have T_6 := Aside0.mk (T.out.alloc (.cells (arr .u64 z4) 36))
      have G6_6 := Aside0.mk (T.out.new (.cells (arr .u64 z4) 36))
      have E6 := Aside0.mk T.out.size
      refine hK.out _ _ (T_6.out) (fun hHeld => ?_)
      clear hK K
      refine norm_ (a' := ?_) ?_ ?_
      rotate_left
      · show Act.put _ (some 3) _ = _
        simp only [Act.put, OpenRow.s1, OpenRow.s2, OpenRow.s3, i64_w, i32_w]
        rfl
      refine one_ (i := 7) (N := some 4) #[true, true, true, true, true, true, true, true, false, false] rfl rfl (by kernel_rfl) (by decide) (fun K hK => ?_)
      refine value_ (w1 := ?_) (v := ?_) (by rfl) rfl ?_ ?_
      rotate_left 2
      · go_simp
        constructor
        · rfl
        · rfl
      have T_6_7 := Aside0.mk (T_6.out.alloc (.cells (arr .u64 z4) 36))
      have G7_6_7 := Aside0.mk (T_6.out.new (.cells (arr .u64 z4) 36))
      have E7 := Aside0.mk T_6.out.size
      have N7 := Aside0.mk (ne_of_blk G6_6.out)
      have G6_6_7 := Aside0.mk (blk_alloc G6_6.out (.cells (arr .u64 z4) 36))
      (try simp only [World.size_alloc] at G7_6_7 E7 N7)
      refine hK.out _ _ (T_6_7.out) (fun hHeld => ?_)
      clear hK K
      refine norm_ (a' := ?_) ?_ ?_
      rotate_left
      · show Act.put _ (some 4) _ = _
        simp only [Act.put, OpenRow.s1, OpenRow.s2, OpenRow.s3, i64_w, i32_w]
        rfl
      exact norm_ (by simp only [putAll, Act.put, List.setIfInBounds_toArray, List.set_cons_zero, List.set_cons_succ] <;> rfl) (hCont (_, _) _ ⟨T_6_7.out, G6_6_7.out, G7_6_7.out, E6.out, E7.out, N7.out⟩)
    · skip
      refine value_ (w1 := ?_) (v := ?_) (by rfl) rfl ?_ ?_
      rotate_left 2
      · go_simp
        constructor
        · rfl
        · rfl
      have T_7 := Aside0.mk (T.out.alloc (.cells (arr .u64 z4) 36))
      have G7_7 := Aside0.mk (T.out.new (.cells (arr .u64 z4) 36))
      have E7 := Aside0.mk T.out.size
      refine hK.out _ _ (T_7.out) (fun hHeld => ?_)
      clear hK K
      refine norm_ (a' := ?_) ?_ ?_
      rotate_left
      · show Act.put _ (some 4) _ = _
        simp only [Act.put, OpenRow.s1, OpenRow.s2, OpenRow.s3, i64_w, i32_w]
        rfl
      refine one_ (i := 6) (N := some 3) #[true, true, true, true, true, true, true, true, false, false] rfl rfl (by kernel_rfl) (by decide) (fun K hK => ?_)
      refine value_ (w1 := ?_) (v := ?_) (by rfl) rfl ?_ ?_
      rotate_left 2
      · go_simp
        constructor
        · rfl
        · rfl
      have T_7_6 := Aside0.mk (T_7.out.alloc (.cells (arr .u64 z4) 36))
      have G6_7_6 := Aside0.mk (T_7.out.new (.cells (arr .u64 z4) 36))
      have E6 := Aside0.mk T_7.out.size
      have N6 := Aside0.mk (ne_of_blk G7_7.out)
      have G7_7_6 := Aside0.mk (blk_alloc G7_7.out (.cells (arr .u64 z4) 36))
      (try simp only [World.size_alloc] at G6_7_6 E6 N6)
      refine hK.out _ _ (T_7_6.out) (fun hHeld => ?_)
      clear hK K
      refine norm_ (a' := ?_) ?_ ?_
      rotate_left
      · show Act.put _ (some 3) _ = _
        simp only [Act.put, OpenRow.s1, OpenRow.s2, OpenRow.s3, i64_w, i32_w]
        rfl
      exact norm_ (by simp only [putAll, Act.put, List.setIfInBounds_toArray, List.set_cons_zero, List.set_cons_succ] <;> rfl) (hCont (_, _) _ ⟨T_7_6.out, G6_7_6.out, G7_7_6.out, E6.out, E7.out, N6.out.symm⟩)
  rintro ⟨g6_, g7_⟩ w9 ⟨hHeld, hG6, hG7, hE6, hE7, hN⟩
  have T9 := Aside0.mk hHeld
  have GG6 := Aside0.mk hG6
  have GG7 := Aside0.mk hG7
  have EE6 := Aside0.mk hE6
  have EE7 := Aside0.mk hE7
  have NN := Aside0.mk hN
  clear hG6 hG7 hE6 hE7 hN
  refine norm_ (a' := ?_) ?_ ?_
  rotate_left
  · simp only [putAll, Act.put, List.setIfInBounds_toArray, List.set_cons_zero, List.set_cons_succ]
    rfl
  refine one_ (i := 8) (N := none) #[true, true, true, true, true, true, true, true, true, false] rfl rfl (by kernel_rfl) (by decide) (fun K hK => ?_)
  refine st_step (by rfl) rfl 36 (.tmp 3) (.tmp 10) rfl g6_ rfl rfl GG6.out (m := 4) (by kernel_rfl) (num_length _) (by first | rfl | (rw [num_length]; rfl) | rw [num_length, num_length]) ?_
  intro w6 h1 h2 h3 h4
  have G3 := Aside0.mk h1
  have T10 := Aside0.mk (St.other T9.out h2 h3 EE6.out)
  have G4 := Aside0.mk ((h2 _ NN.out.symm).trans GG7.out)
  clear h1 h2 h3 h4
  refine hK.out _ _ (T10.out) (fun hHeld => ?_)
  clear hK K
  refine one_ (i := 9) (N := none) #[true, true, true, true, true, true, true, true, true, true] rfl rfl (by kernel_rfl) (by decide) (fun K hK => ?_)
  refine st_step (by rfl) rfl 36 (.tmp 4) (.tmp 13) rfl g7_ rfl rfl G4.out (m := 4) (by kernel_rfl) (num_length _) (by first | rfl | (rw [num_length]; rfl) | rw [num_length, num_length]) ?_
  intro w6 h1 h2 h3 h4
  have G5 := Aside0.mk h1
  have T11 := Aside0.mk (St.other T10.out h2 h3 EE7.out)
  have G6 := Aside0.mk ((h2 _ NN.out).trans G3.out)
  clear h1 h2 h3 h4
  refine hK.out _ _ (T11.out) (fun hHeld => ?_)
  clear hK K
  refine done_ (by kernel_rfl) ?_

  rw [HW4.out] at G5 ⊢
  have EL := Aside0.mk EE6.out
  have U := Aside0.mk T11.out.drew
  have A := Aside0.mk (blk_drew G6.out)
  have B := Aside0.mk (blk_drew G5.out)
  clear T T9 T10 T11 G3 G4 G5 G6 GG6 GG7 EE6 EE7 NN HW4
  go_wp2
  refine start_ (n := 5) (S := fun w' => St w [⟨74, .u64, wid W⟩, ⟨44, .u64, z4⟩] w' ∧ w'.heap[g6_]? = some (.cells (arr .u64 (num (W))) 36 (0, 0)) ∧ w'.heap[g7_]? = some (.cells (arr .u64 (num H)) 36 (0, 0))) (ds := []) #[false, false, false, false, false] (by kernel_rfl) rfl rfl ⟨U.out, A.out, B.out⟩ (fun hHeld => ?_)
  refine take_ (i := 0) (N := some 14) (v := ?_) (a' := ?_) #[true, false, false, false, false] rfl rfl (by kernel_rfl) (fun _ _ _ h => h) (Or.inl ⟨by rfl, ?_⟩) hHeld ?_ ?_
  rotate_left
  · rintro w' ⟨s0, s1, s2⟩
    refine (run_ld 36 (.tmp 4) (by rfl) g7_ (by rfl) s2 Try.underlying36 (m := 4) (by kernel_rfl) (num_length _)).trans ?_; with_reducible rfl
  rotate_left
  · simp only [Act.put, OpenRow.s1, OpenRow.s2, OpenRow.s3, i64_w, i32_w]; rfl
  refine join_ (σ := Nat) 1 #[true, true, true, true, false] (fun s_ => [(15, .agg (arr .u64 (num 38))), (16, .agg (arr .u64 (wid X))), (5, .pointer (some ⟨s_, 0, none⟩))]) (fun s_ w' => (St w [⟨74, .u64, wid W⟩, ⟨44, .u64, z4⟩] w') ∧ (w'.heap[g6_]? = some (.cells (arr .u64 (num (W))) 36 (0, 0))) ∧ (w'.heap[g7_]? = some (.cells (arr .u64 (num H)) 36 (0, 0))) ∧ w'.heap[s_]? = some (.cells (arr .u64 z8) 74 (0, 0)) ∧ w.heap.size + 2 ≤ s_ ∧ g6_ ≠ s_ ∧ g7_ ≠ s_) ?_ ?_
  rotate_left
  · intro hCont
    refine two_ (i := 1) (j := 3) (Ni := some 15) (Nj := some 5) #[true, true, false, false, false] #[true, false, false, true, false] rfl rfl rfl rfl (by kernel_rfl) (by decide) (by decide) (fun K hK => ?_) (fun K hK => ?_)
    · skip
      refine goes_ Try.func95 (by kernel_rfl) rfl #[.int .u64 38] (by rfl) rfl rfl (by simp only [List.map_toArray, List.map_cons, List.map_nil] <;> rfl) ?_
      with_reducible refine (HS38.out _).mono ?_
      rintro e w3 ⟨rfl, hb⟩
      refine ⟨_, rfl, ?_⟩
      have U_1 := Aside0.mk (U.out.step hb)
      have A_1 := Aside0.mk (blk_below A.out hb)
      have B_1 := Aside0.mk (blk_below B.out hb)
      clear hb
      refine hK.out _ _ ⟨U_1.out, A_1.out, B_1.out⟩ (fun hHeld => ?_)
      clear hK K
      refine norm_ (a' := ?_) ?_ ?_
      rotate_left
      · show Act.put _ (some 15) _ = _
        simp only [Act.put, OpenRow.s1, OpenRow.s2, OpenRow.s3, i64_w, i32_w]
        rfl
      refine two_ (i := 2) (j := 3) (Ni := some 16) (Nj := some 5) #[true, true, true, false, false] #[true, true, false, true, false] rfl rfl rfl rfl (by kernel_rfl) (by decide) (by decide) (fun K hK => ?_) (fun K hK => ?_)
      · skip
        refine goes_ Try.func88 (by kernel_rfl) rfl #[.agg (arr .u64 (num H)), .agg (arr .u64 (num 38))] (by rfl) rfl rfl (by simp only [List.map_toArray, List.map_cons, List.map_nil] <;> rfl) ?_
        with_reducible refine (HT.out _).mono ?_
        rintro e w3 ⟨rfl, hb⟩
        refine ⟨_, rfl, ?_⟩
        have U_1_2 := Aside0.mk (U_1.out.step hb)
        have A_1_2 := Aside0.mk (blk_below A_1.out hb)
        have B_1_2 := Aside0.mk (blk_below B_1.out hb)
        clear hb
        refine hK.out _ _ ⟨U_1_2.out, A_1_2.out, B_1_2.out⟩ (fun hHeld => ?_)
        clear hK K
        refine norm_ (a' := ?_) ?_ ?_
        rotate_left
        · show Act.put _ (some 16) _ = _
          simp only [Act.put, OpenRow.s1, OpenRow.s2, OpenRow.s3, i64_w, i32_w]
          rfl
        refine one_ (i := 3) (N := some 5) #[true, true, true, true, false] rfl rfl (by kernel_rfl) (by decide) (fun K hK => ?_)
        refine value_ (w1 := ?_) (v := ?_) (by rfl) rfl ?_ ?_
        rotate_left 2
        · go_simp
          constructor
          · rfl
          · rfl
        have U_1_2_3 := Aside0.mk (U_1_2.out.alloc (.cells (arr .u64 z8) 74))
        have A_1_2_3 := Aside0.mk (blk_alloc A_1_2.out (.cells (arr .u64 z8) 74))
        have B_1_2_3 := Aside0.mk (blk_alloc B_1_2.out (.cells (arr .u64 z8) 74))
        have G3_1_2_3 := Aside0.mk (U_1_2.out.new (.cells (arr .u64 z8) 74))
        have E3 := Aside0.mk U_1_2.out.size
        have M3_0 := Aside0.mk (ne_of_blk A_1_2.out)
        have M3_1 := Aside0.mk (ne_of_blk B_1_2.out)
        refine hK.out _ _ ⟨U_1_2_3.out, A_1_2_3.out, B_1_2_3.out⟩ (fun hHeld => ?_)
        clear hK K
        refine norm_ (a' := ?_) ?_ ?_
        rotate_left
        · show Act.put _ (some 5) _ = _
          simp only [Act.put, OpenRow.s1, OpenRow.s2, OpenRow.s3, i64_w, i32_w]
          rfl
        exact norm_ (by simp only [putAll, Act.put, List.setIfInBounds_toArray, List.set_cons_zero, List.set_cons_succ] <;> rfl) (hCont _ _ ⟨U_1_2_3.out, A_1_2_3.out, B_1_2_3.out, G3_1_2_3.out, E3.out, M3_0.out, M3_1.out⟩)
      · skip
        refine value_ (w1 := ?_) (v := ?_) (by rfl) rfl ?_ ?_
        rotate_left 2
        · go_simp
          constructor
          · rfl
          · rfl
        have U_1_3 := Aside0.mk (U_1.out.alloc (.cells (arr .u64 z8) 74))
        have A_1_3 := Aside0.mk (blk_alloc A_1.out (.cells (arr .u64 z8) 74))
        have B_1_3 := Aside0.mk (blk_alloc B_1.out (.cells (arr .u64 z8) 74))
        have G3_1_3 := Aside0.mk (U_1.out.new (.cells (arr .u64 z8) 74))
        have E3 := Aside0.mk U_1.out.size
        have M3_0 := Aside0.mk (ne_of_blk A_1.out)
        have M3_1 := Aside0.mk (ne_of_blk B_1.out)
        refine hK.out _ _ ⟨U_1_3.out, A_1_3.out, B_1_3.out⟩ (fun hHeld => ?_)
        clear hK K
        refine norm_ (a' := ?_) ?_ ?_
        rotate_left
        · show Act.put _ (some 5) _ = _
          simp only [Act.put, OpenRow.s1, OpenRow.s2, OpenRow.s3, i64_w, i32_w]
          rfl
        refine one_ (i := 2) (N := some 16) #[true, true, true, true, false] rfl rfl (by kernel_rfl) (by decide) (fun K hK => ?_)
        refine goes_ Try.func88 (by kernel_rfl) rfl #[.agg (arr .u64 (num H)), .agg (arr .u64 (num 38))] (by rfl) rfl rfl (by simp only [List.map_toArray, List.map_cons, List.map_nil] <;> rfl) ?_
        with_reducible refine (HT.out _).mono ?_
        rintro e w3 ⟨rfl, hb⟩
        refine ⟨_, rfl, ?_⟩
        have U_1_3_2 := Aside0.mk (U_1_3.out.step hb)
        have A_1_3_2 := Aside0.mk (blk_below A_1_3.out hb)
        have B_1_3_2 := Aside0.mk (blk_below B_1_3.out hb)
        have G3_1_3_2 := Aside0.mk (blk_below G3_1_3.out hb)
        clear hb
        refine hK.out _ _ ⟨U_1_3_2.out, A_1_3_2.out, B_1_3_2.out⟩ (fun hHeld => ?_)
        clear hK K
        refine norm_ (a' := ?_) ?_ ?_
        rotate_left
        · show Act.put _ (some 16) _ = _
          simp only [Act.put, OpenRow.s1, OpenRow.s2, OpenRow.s3, i64_w, i32_w]
          rfl
        exact norm_ (by simp only [putAll, Act.put, List.setIfInBounds_toArray, List.set_cons_zero, List.set_cons_succ] <;> rfl) (hCont _ _ ⟨U_1_3_2.out, A_1_3_2.out, B_1_3_2.out, G3_1_3_2.out, E3.out, M3_0.out, M3_1.out⟩)
    · skip
      refine value_ (w1 := ?_) (v := ?_) (by rfl) rfl ?_ ?_
      rotate_left 2
      · go_simp
        constructor
        · rfl
        · rfl
      have U_3 := Aside0.mk (U.out.alloc (.cells (arr .u64 z8) 74))
      have A_3 := Aside0.mk (blk_alloc A.out (.cells (arr .u64 z8) 74))
      have B_3 := Aside0.mk (blk_alloc B.out (.cells (arr .u64 z8) 74))
      have G3_3 := Aside0.mk (U.out.new (.cells (arr .u64 z8) 74))
      have E3 := Aside0.mk U.out.size
      have M3_0 := Aside0.mk (ne_of_blk A.out)
      have M3_1 := Aside0.mk (ne_of_blk B.out)
      refine hK.out _ _ ⟨U_3.out, A_3.out, B_3.out⟩ (fun hHeld => ?_)
      clear hK K
      refine norm_ (a' := ?_) ?_ ?_
      rotate_left
      · show Act.put _ (some 5) _ = _
        simp only [Act.put, OpenRow.s1, OpenRow.s2, OpenRow.s3, i64_w, i32_w]
        rfl
      refine one_ (i := 1) (N := some 15) #[true, true, false, true, false] rfl rfl (by kernel_rfl) (by decide) (fun K hK => ?_)
      refine goes_ Try.func95 (by kernel_rfl) rfl #[.int .u64 38] (by rfl) rfl rfl (by simp only [List.map_toArray, List.map_cons, List.map_nil] <;> rfl) ?_
      with_reducible refine (HS38.out _).mono ?_
      rintro e w3 ⟨rfl, hb⟩
      refine ⟨_, rfl, ?_⟩
      have U_3_1 := Aside0.mk (U_3.out.step hb)
      have A_3_1 := Aside0.mk (blk_below A_3.out hb)
      have B_3_1 := Aside0.mk (blk_below B_3.out hb)
      have G3_3_1 := Aside0.mk (blk_below G3_3.out hb)
      clear hb
      refine hK.out _ _ ⟨U_3_1.out, A_3_1.out, B_3_1.out⟩ (fun hHeld => ?_)
      clear hK K
      refine norm_ (a' := ?_) ?_ ?_
      rotate_left
      · show Act.put _ (some 15) _ = _
        simp only [Act.put, OpenRow.s1, OpenRow.s2, OpenRow.s3, i64_w, i32_w]
        rfl
      refine one_ (i := 2) (N := some 16) #[true, true, true, true, false] rfl rfl (by kernel_rfl) (by decide) (fun K hK => ?_)
      refine goes_ Try.func88 (by kernel_rfl) rfl #[.agg (arr .u64 (num H)), .agg (arr .u64 (num 38))] (by rfl) rfl rfl (by simp only [List.map_toArray, List.map_cons, List.map_nil] <;> rfl) ?_
      with_reducible refine (HT.out _).mono ?_
      rintro e w3 ⟨rfl, hb⟩
      refine ⟨_, rfl, ?_⟩
      have U_3_1_2 := Aside0.mk (U_3_1.out.step hb)
      have A_3_1_2 := Aside0.mk (blk_below A_3_1.out hb)
      have B_3_1_2 := Aside0.mk (blk_below B_3_1.out hb)
      have G3_3_1_2 := Aside0.mk (blk_below G3_3_1.out hb)
      clear hb
      refine hK.out _ _ ⟨U_3_1_2.out, A_3_1_2.out, B_3_1_2.out⟩ (fun hHeld => ?_)
      clear hK K
      refine norm_ (a' := ?_) ?_ ?_
      rotate_left
      · show Act.put _ (some 16) _ = _
        simp only [Act.put, OpenRow.s1, OpenRow.s2, OpenRow.s3, i64_w, i32_w]
        rfl
      exact norm_ (by simp only [putAll, Act.put, List.setIfInBounds_toArray, List.set_cons_zero, List.set_cons_succ] <;> rfl) (hCont _ _ ⟨U_3_1_2.out, A_3_1_2.out, B_3_1_2.out, G3_3_1_2.out, E3.out, M3_0.out, M3_1.out⟩)
  rintro g3_ w9 ⟨hS0, hS1, hS2, hG3, hE3, hM3_0, hM3_1⟩
  have T9 := Aside0.mk hS0
  have Z9_1 := Aside0.mk hS1
  have Z9_2 := Aside0.mk hS2
  have GG3 := Aside0.mk hG3
  have EE3 := Aside0.mk hE3
  have MM3_0 := Aside0.mk hM3_0
  have MM3_1 := Aside0.mk hM3_1
  have hHeld := (And.intro hS0 (And.intro hS1 hS2))
  clear hG3 hE3 hM3_0 hM3_1
  refine norm_ (a' := ?_) ?_ ?_
  rotate_left
  · simp only [putAll, Act.put, List.setIfInBounds_toArray, List.set_cons_zero, List.set_cons_succ]
    rfl
  refine one_ (i := 4) (N := none) #[true, true, true, true, true] rfl rfl (by kernel_rfl) (by decide) (fun K hK => ?_)
  refine st_step (by rfl) rfl 74 (.tmp 5) (.tmp 16) rfl g3_ rfl rfl GG3.out (m := 8) (by kernel_rfl) (wid_length _) (by rw [wid_length]; rfl) ?_
  intro w6 h1 h2 h3 h4
  have D := Aside0.mk h1
  have V := Aside0.mk (St.other T9.out h2 h3 EE3.out)
  have A2 := Aside0.mk ((h2 _ MM3_0.out).trans Z9_1.out)
  have B2 := Aside0.mk ((h2 _ MM3_1.out).trans Z9_2.out)
  clear h1 h2 h3 h4
  refine hK.out _ _ ⟨V.out, A2.out, B2.out⟩ (fun hHeld => ?_)
  clear hK K
  refine done_ (by kernel_rfl) ?_

  have MM := Aside0.mk MM3_0.out
  have V0 := Aside0.mk V.out.drew
  have A0 := Aside0.mk (blk_drew A2.out)
  have D0 := Aside0.mk (blk_drew D.out)
  clear T9 Z9_1 Z9_2 GG3 EE3 MM3_0 MM3_1 V A2 B2 D U A B
  go_wp2
  refine start_ (n := 10) (S := fun w' => St w [⟨74, .u64, wid W⟩, ⟨44, .u64, z4⟩] w' ∧ w'.heap[g6_]? = some (.cells (arr .u64 (num (W))) 36 (0, 0)) ∧ w'.heap[g3_]? = some (.cells (arr .u64 (wid X)) 74 (0, 0))) (ds := [8]) #[false, false, false, false, false, false, false, false, false, false] (by kernel_rfl) rfl rfl ⟨V0.out, A0.out, D0.out⟩ (fun hHeld => ?_)
  refine pure_ (i := 1) (N := some 19) (v := ?_) (a' := ?_) #[false, true, false, false, false, false, false, false, false, false] rfl rfl (by kernel_rfl) (fun _ _ _ h => h) (Or.inl ⟨by rfl, ?_⟩) ?_ ?_
  rotate_left
  · intro w'; go_simp; with_reducible rfl
  rotate_left
  · simp only [Act.put, OpenRow.s1, OpenRow.s2, OpenRow.s3, i64_w, i32_w]; rfl
  refine pure_ (i := 2) (N := some 20) (v := ?_) (a' := ?_) #[false, true, true, false, false, false, false, false, false, false] rfl rfl (by kernel_rfl) (fun _ _ _ h => h) (Or.inl ⟨by rfl, ?_⟩) ?_ ?_
  rotate_left
  · intro w'; go_simp; with_reducible rfl
  rotate_left
  · simp only [Act.put, OpenRow.s1, OpenRow.s2, OpenRow.s3, i64_w, i32_w]; rfl
  refine take_ (i := 0) (N := some 18) (v := ?_) (a' := ?_) #[true, true, true, false, false, false, false, false, false, false] rfl rfl (by kernel_rfl) (fun _ _ _ h => h) (Or.inl ⟨by rfl, ?_⟩) hHeld ?_ ?_
  rotate_left
  · rintro w' ⟨s0, s1, s2⟩
    refine (run_ld 36 (.tmp 3) (by rfl) g6_ (by rfl) s1 Try.underlying36 (m := 4) (by kernel_rfl) (num_length _)).trans ?_; with_reducible rfl
  rotate_left
  · simp only [Act.put, OpenRow.s1, OpenRow.s2, OpenRow.s3, i64_w, i32_w]; rfl
  refine take_ (i := 3) (N := some 21) (v := ?_) (a' := ?_) #[true, true, true, true, false, false, false, false, false, false] rfl rfl (by kernel_rfl) (fun _ _ _ h => h) (Or.inl ⟨by rfl, ?_⟩) hHeld ?_ ?_
  rotate_left
  · rintro w' ⟨s0, s1, s2⟩
    refine (run_ldm 36 (.tmp 20) (by rfl) g3_ 0 (by rfl) (num X) s2 (wid_low X) Try.underlying36 (m := 4) (by kernel_rfl) (num_length _)).trans ?_; with_reducible rfl
  rotate_left
  · simp only [Act.put, OpenRow.s1, OpenRow.s2, OpenRow.s3, i64_w, i32_w]; rfl
  refine one_ (i := 4) (N := some 22) #[true, true, true, true, true, false, false, false, false, false] rfl rfl (by kernel_rfl) (by decide) (fun K hK => ?_)
  refine goes_ Try.func82 (by kernel_rfl) rfl #[.agg (arr .u64 (num W)), .agg (arr .u64 (num X))] (by rfl) rfl rfl (by simp only [List.map_toArray, List.map_cons, List.map_nil] <;> rfl) ?_
  with_reducible refine (HP1.out _).mono ?_
  rintro e w3 ⟨rfl, hb⟩
  refine ⟨_, rfl, ?_⟩
  have V1 := Aside0.mk (V0.out.step hb)
  have A1 := Aside0.mk (blk_below A0.out hb)
  have D1 := Aside0.mk (blk_below D0.out hb)
  clear hb
  refine hK.out _ _ ⟨V1.out, A1.out, D1.out⟩ (fun hHeld => ?_)
  clear hK K
  refine norm_ (a' := ?_) ?_ ?_
  rotate_left
  · show Act.put _ (some 22) _ = _
    simp only [Act.put, OpenRow.s1, OpenRow.s2, OpenRow.s3, i64_w, i32_w]
    rfl
  refine pure_ (i := 5) (N := some 17) (v := ?_) (a' := ?_) #[true, true, true, true, true, true, false, false, false, false] rfl rfl (by kernel_rfl) (fun _ _ _ h => h) (Or.inl ⟨by rfl, ?_⟩) ?_ ?_
  rotate_left
  · intro w'; go_simp; with_reducible rfl
  rotate_left
  · simp only [Act.put, OpenRow.s1, OpenRow.s2, OpenRow.s3, i64_w, i32_w]; rfl
  refine pure_ (i := 6) (N := some 23) (v := ?_) (a' := ?_) #[true, true, true, true, true, true, true, false, false, false] rfl rfl (by kernel_rfl) (fun _ _ _ h => h) (Or.inl ⟨by rfl, ?_⟩) ?_ ?_
  rotate_left
  · intro w'; go_simp; with_reducible rfl
  rotate_left
  · simp only [Act.put, OpenRow.s1, OpenRow.s2, OpenRow.s3, i64_w, i32_w]; rfl
  refine pure_ (i := 7) (N := some 24) (v := ?_) (a' := ?_) #[true, true, true, true, true, true, true, true, false, false] rfl rfl (by kernel_rfl) (fun _ _ _ h => h) (Or.inl ⟨by rfl, ?_⟩) ?_ ?_
  rotate_left
  · intro w'; go_simp; with_reducible rfl
  rotate_left
  · simp only [Act.put, OpenRow.s1, OpenRow.s2, OpenRow.s3, i64_w, i32_w]; rfl
  refine last_ (i := 8) (N := none) #[true, true, true, true, true, true, true, true, true, false] rfl rfl (by kernel_rfl) (by decide) (fun K hK => ?_)
  refine st_step (by rfl) rfl 36 (.tmp 3) (.tmp 23) rfl g6_ rfl rfl A1.out (m := 4) (by kernel_rfl) (num_length _) (by rw [num_length, num_length]) ?_
  intro w6 h1 h2 h3 h4
  have A2 := Aside0.mk h1
  have V2 := Aside0.mk (St.other V1.out h2 h3 EL.out)
  have D2 := Aside0.mk ((h2 _ MM.out.symm).trans D1.out)
  clear h1 h2 h3 h4
  refine hK.out _ _ ?_
  clear hK K
  refine pure_ (i := 9) (N := some 6) (v := ?_) (a' := ?_) #[true, true, true, true, true, true, true, true, true, true] rfl rfl (by kernel_rfl) (fun _ _ _ h => h) (Or.inl ⟨by rfl, ?_⟩) ?_ ?_
  rotate_left
  · intro w'; go_simp; with_reducible rfl
  rotate_left
  · simp only [Act.put, OpenRow.s1, OpenRow.s2, OpenRow.s3, i64_w, i32_w]; rfl
  refine done_ (by kernel_rfl) ?_

  have ct := blk_get D2.out 4 (by rw [wid_length]; omega)
  rw [HWT.out] at ct
  go_wp2
  have V3 := Aside0.mk V2.out.drew
  have A3 := Aside0.mk (blk_drew A2.out)
  have D3 := Aside0.mk (blk_drew D2.out)
  refine start_ (n := 9) (S := fun w' => St w [⟨74, .u64, wid W⟩, ⟨44, .u64, z4⟩] w' ∧ w'.heap[g6_]? = some (.cells (arr .u64 (num (l1))) 36 (0, 0)) ∧ w'.heap[g3_]? = some (.cells (arr .u64 (wid X)) 74 (0, 0))) (ds := [7]) #[false, false, false, false, false, false, false, false, false] (by kernel_rfl) rfl rfl ⟨V3.out, A3.out, D3.out⟩ (fun hHeld => ?_)
  refine pure_ (i := 1) (N := some 32) (v := ?_) (a' := ?_) #[false, true, false, false, false, false, false, false, false] rfl rfl (by kernel_rfl) (fun _ _ _ h => h) (Or.inl ⟨by rfl, ?_⟩) ?_ ?_
  rotate_left
  · intro w'; go_simp; with_reducible rfl
  rotate_left
  · simp only [Act.put, OpenRow.s1, OpenRow.s2, OpenRow.s3, i64_w, i32_w]; rfl
  refine take_ (i := 0) (N := some 31) (v := ?_) (a' := ?_) #[true, true, false, false, false, false, false, false, false] rfl rfl (by kernel_rfl) (fun _ _ _ h => h) (Or.inl ⟨by rfl, ?_⟩) hHeld ?_ ?_
  rotate_left
  · rintro w' ⟨s0, s1, s2⟩
    refine (run_ld 36 (.tmp 3) (by rfl) g6_ (by rfl) s1 Try.underlying36 (m := 4) (by kernel_rfl) (num_length _)).trans ?_; with_reducible rfl
  rotate_left
  · simp only [Act.put, OpenRow.s1, OpenRow.s2, OpenRow.s3, i64_w, i32_w]; rfl
  refine one_ (i := 2) (N := some 33) #[true, true, true, false, false, false, false, false, false] rfl rfl (by kernel_rfl) (by decide) (fun K hK => ?_)
  refine goes_ Try.func95 (by kernel_rfl) rfl #[.int .u64 (m : Int)] (by rfl) rfl rfl (by simp only [List.map_toArray, List.map_cons, List.map_nil] <;> rfl) ?_
  with_reducible refine (HS1.out _).mono ?_
  rintro e w3 ⟨rfl, hb⟩
  refine ⟨_, rfl, ?_⟩
  have V4 := Aside0.mk (V3.out.step hb)
  have A4 := Aside0.mk (blk_below A3.out hb)
  have D4 := Aside0.mk (blk_below D3.out hb)
  clear hb
  refine hK.out _ _ ⟨V4.out, A4.out, D4.out⟩ (fun hHeld => ?_)
  clear hK K
  refine norm_ (a' := ?_) ?_ ?_
  rotate_left
  · show Act.put _ (some 33) _ = _
    simp only [Act.put, OpenRow.s1, OpenRow.s2, OpenRow.s3, i64_w, i32_w]
    rfl
  refine one_ (i := 3) (N := some 34) #[true, true, true, true, false, false, false, false, false] rfl rfl (by kernel_rfl) (by decide) (fun K hK => ?_)
  refine goes_ Try.func82 (by kernel_rfl) rfl #[.agg (arr .u64 (num l1)), .agg (arr .u64 (num m))] (by rfl) rfl rfl (by simp only [List.map_toArray, List.map_cons, List.map_nil] <;> rfl) ?_
  with_reducible refine (HP2.out _).mono ?_
  rintro e w3 ⟨rfl, hb⟩
  refine ⟨_, rfl, ?_⟩
  have V5 := Aside0.mk (V4.out.step hb)
  have A5 := Aside0.mk (blk_below A4.out hb)
  have D5 := Aside0.mk (blk_below D4.out hb)
  clear hb
  refine hK.out _ _ ⟨V5.out, A5.out, D5.out⟩ (fun hHeld => ?_)
  clear hK K
  refine norm_ (a' := ?_) ?_ ?_
  rotate_left
  · show Act.put _ (some 34) _ = _
    simp only [Act.put, OpenRow.s1, OpenRow.s2, OpenRow.s3, i64_w, i32_w]
    rfl
  refine pure_ (i := 4) (N := some 30) (v := ?_) (a' := ?_) #[true, true, true, true, true, false, false, false, false] rfl rfl (by kernel_rfl) (fun _ _ _ h => h) (Or.inl ⟨by rfl, ?_⟩) ?_ ?_
  rotate_left
  · intro w'; go_simp; with_reducible rfl
  rotate_left
  · simp only [Act.put, OpenRow.s1, OpenRow.s2, OpenRow.s3, i64_w, i32_w]; rfl
  refine pure_ (i := 5) (N := some 35) (v := ?_) (a' := ?_) #[true, true, true, true, true, true, false, false, false] rfl rfl (by kernel_rfl) (fun _ _ _ h => h) (Or.inl ⟨by rfl, ?_⟩) ?_ ?_
  rotate_left
  · intro w'; go_simp; with_reducible rfl
  rotate_left
  · simp only [Act.put, OpenRow.s1, OpenRow.s2, OpenRow.s3, i64_w, i32_w]; rfl
  refine pure_ (i := 6) (N := some 36) (v := ?_) (a' := ?_) #[true, true, true, true, true, true, true, false, false] rfl rfl (by kernel_rfl) (fun _ _ _ h => h) (Or.inl ⟨by rfl, ?_⟩) ?_ ?_
  rotate_left
  · intro w'; go_simp; with_reducible rfl
  rotate_left
  · simp only [Act.put, OpenRow.s1, OpenRow.s2, OpenRow.s3, i64_w, i32_w]; rfl
  refine last_ (i := 7) (N := none) #[true, true, true, true, true, true, true, true, false] rfl rfl (by kernel_rfl) (by decide) (fun K hK => ?_)
  refine st_step (by rfl) rfl 36 (.tmp 3) (.tmp 35) rfl g6_ rfl rfl A5.out (m := 4) (by kernel_rfl) (num_length _) (by rw [num_length, num_length]) ?_
  intro w6 h1 h2 h3 h4
  have A6 := Aside0.mk h1
  have V6 := Aside0.mk (St.other V5.out h2 h3 EL.out)
  have D6 := Aside0.mk ((h2 _ MM.out.symm).trans D5.out)
  clear h1 h2 h3 h4
  refine hK.out _ _ ?_
  clear hK K
  refine pure_ (i := 8) (N := some 6) (v := ?_) (a' := ?_) #[true, true, true, true, true, true, true, true, true] rfl rfl (by kernel_rfl) (fun _ _ _ h => h) (Or.inl ⟨by rfl, ?_⟩) ?_ ?_
  rotate_left
  · intro w'; go_simp; with_reducible rfl
  rotate_left
  · simp only [Act.put, OpenRow.s1, OpenRow.s2, OpenRow.s3, i64_w, i32_w]; rfl
  refine done_ (by kernel_rfl) ?_

  go_wp2
  have V7 := Aside0.mk V6.out.drew
  have A7 := Aside0.mk (blk_drew A6.out)
  have D7 := Aside0.mk (blk_drew D6.out)
  refine start_ (n := 9) (S := fun w' => St w [⟨74, .u64, wid W⟩, ⟨44, .u64, z4⟩] w' ∧ w'.heap[g6_]? = some (.cells (arr .u64 (num (l2))) 36 (0, 0)) ∧ w'.heap[g3_]? = some (.cells (arr .u64 (wid X)) 74 (0, 0))) (ds := [8]) #[false, false, false, false, false, false, false, false, false] (by kernel_rfl) rfl rfl ⟨V7.out, A7.out, D7.out⟩ (fun hHeld => ?_)
  refine pure_ (i := 1) (N := some 39) (v := ?_) (a' := ?_) #[false, true, false, false, false, false, false, false, false] rfl rfl (by kernel_rfl) (fun _ _ _ h => h) (Or.inl ⟨by rfl, ?_⟩) ?_ ?_
  rotate_left
  · intro w'; go_simp; with_reducible rfl
  rotate_left
  · simp only [Act.put, OpenRow.s1, OpenRow.s2, OpenRow.s3, i64_w, i32_w]; rfl
  refine pure_ (i := 2) (N := some 40) (v := ?_) (a' := ?_) #[false, true, true, false, false, false, false, false, false] rfl rfl (by kernel_rfl) (fun _ _ _ h => h) (Or.inl ⟨by rfl, ?_⟩) ?_ ?_
  rotate_left
  · intro w'; go_simp; with_reducible rfl
  rotate_left
  · simp only [Act.put, OpenRow.s1, OpenRow.s2, OpenRow.s3, i64_w, i32_w]; rfl
  refine take_ (i := 0) (N := some 38) (v := ?_) (a' := ?_) #[true, true, true, false, false, false, false, false, false] rfl rfl (by kernel_rfl) (fun _ _ _ h => h) (Or.inl ⟨by rfl, ?_⟩) hHeld ?_ ?_
  rotate_left
  · rintro w' ⟨s0, s1, s2⟩
    refine (run_ld 36 (.tmp 3) (by rfl) g6_ (by rfl) s1 Try.underlying36 (m := 4) (by kernel_rfl) (num_length _)).trans ?_; with_reducible rfl
  rotate_left
  · simp only [Act.put, OpenRow.s1, OpenRow.s2, OpenRow.s3, i64_w, i32_w]; rfl
  refine one_ (i := 3) (N := some 41) #[true, true, true, true, false, false, false, false, false] rfl rfl (by kernel_rfl) (by decide) (fun K hK => ?_)
  refine goes_ Try.func95 (by kernel_rfl) rfl #[.int .u64 (m2 : Int)] (by rfl) rfl rfl (by simp only [List.map_toArray, List.map_cons, List.map_nil] <;> rfl) ?_
  with_reducible refine (HS2.out _).mono ?_
  rintro e w3 ⟨rfl, hb⟩
  refine ⟨_, rfl, ?_⟩
  have V8 := Aside0.mk (V7.out.step hb)
  have A8 := Aside0.mk (blk_below A7.out hb)
  have D8 := Aside0.mk (blk_below D7.out hb)
  clear hb
  refine hK.out _ _ ⟨V8.out, A8.out, D8.out⟩ (fun hHeld => ?_)
  clear hK K
  refine norm_ (a' := ?_) ?_ ?_
  rotate_left
  · show Act.put _ (some 41) _ = _
    simp only [Act.put, OpenRow.s1, OpenRow.s2, OpenRow.s3, i64_w, i32_w]
    rfl
  refine one_ (i := 4) (N := some 42) #[true, true, true, true, true, false, false, false, false] rfl rfl (by kernel_rfl) (by decide) (fun K hK => ?_)
  refine goes_ Try.func82 (by kernel_rfl) rfl #[.agg (arr .u64 (num l2)), .agg (arr .u64 (num m2))] (by rfl) rfl rfl (by simp only [List.map_toArray, List.map_cons, List.map_nil] <;> rfl) ?_
  with_reducible refine (HP3.out _).mono ?_
  rintro e w3 ⟨rfl, hb⟩
  refine ⟨_, rfl, ?_⟩
  have V9 := Aside0.mk (V8.out.step hb)
  have A9 := Aside0.mk (blk_below A8.out hb)
  have D9 := Aside0.mk (blk_below D8.out hb)
  clear hb
  refine hK.out _ _ ⟨V9.out, A9.out, D9.out⟩ (fun hHeld => ?_)
  clear hK K
  refine norm_ (a' := ?_) ?_ ?_
  rotate_left
  · show Act.put _ (some 42) _ = _
    simp only [Act.put, OpenRow.s1, OpenRow.s2, OpenRow.s3, i64_w, i32_w]
    rfl
  refine pure_ (i := 5) (N := some 37) (v := ?_) (a' := ?_) #[true, true, true, true, true, true, false, false, false] rfl rfl (by kernel_rfl) (fun _ _ _ h => h) (Or.inl ⟨by rfl, ?_⟩) ?_ ?_
  rotate_left
  · intro w'; go_simp; with_reducible rfl
  rotate_left
  · simp only [Act.put, OpenRow.s1, OpenRow.s2, OpenRow.s3, i64_w, i32_w]; rfl
  refine pure_ (i := 6) (N := some 43) (v := ?_) (a' := ?_) #[true, true, true, true, true, true, true, false, false] rfl rfl (by kernel_rfl) (fun _ _ _ h => h) (Or.inl ⟨by rfl, ?_⟩) ?_ ?_
  rotate_left
  · intro w'; go_simp; with_reducible rfl
  rotate_left
  · simp only [Act.put, OpenRow.s1, OpenRow.s2, OpenRow.s3, i64_w, i32_w]; rfl
  refine pure_ (i := 7) (N := some 44) (v := ?_) (a' := ?_) #[true, true, true, true, true, true, true, true, false] rfl rfl (by kernel_rfl) (fun _ _ _ h => h) (Or.inl ⟨by rfl, ?_⟩) ?_ ?_
  rotate_left
  · intro w'; go_simp; with_reducible rfl
  rotate_left
  · simp only [Act.put, OpenRow.s1, OpenRow.s2, OpenRow.s3, i64_w, i32_w]; rfl
  refine last_ (i := 8) (N := none) #[true, true, true, true, true, true, true, true, true] rfl rfl (by kernel_rfl) (by decide) (fun K hK => ?_)
  refine st_step (by rfl) rfl 36 (.tmp 3) (.tmp 43) rfl g6_ rfl rfl A9.out (m := 4) (by kernel_rfl) (num_length _) (by rw [num_length, num_length]) ?_
  intro w6 h1 h2 h3 h4
  have A10 := Aside0.mk h1
  have V10 := Aside0.mk (St.other V9.out h2 h3 EL.out)
  have D10 := Aside0.mk ((h2 _ MM.out.symm).trans D9.out)
  clear h1 h2 h3 h4
  refine hK.out _ _ ?_
  clear hK K
  refine done_ (by kernel_rfl) ?_

  go_wp2_with (first
    | ((with_reducible refine gate_dst (N := 45) rfl ?_); refine ld_arr rfl 36 (.tmp 3) rfl g6_ rfl A10.out Try.underlying36 (m := 4) (by kernel_rfl) (num_length _) ?_)
    | ((with_reducible refine (HQ.out _).mono ?_); rintro e w7 ⟨rfl, hb⟩; have V11 := Aside0.mk (V10.out.step hb); clear hb)
    | (refine st_arr rfl 44 (.tmp 2) (.tmp 46) rfl (w.heap.size + 1) (xs := num r) rfl rfl (V11.out.blk 1 rfl) (m := 4) (by kernel_rfl) (num_length _) (by rw [num_length]; rfl) ?_; intro w' h1 h2 h4 h3; have H1 := Aside0.mk h1; have V12 := Aside0.mk (V11.out.row 1 rfl h1 h2 h3); clear h1 h2 h3 h4))
  exact bodyPost_ret (results_cell_row Try.results92 _ _ (w.heap.size + 1) 44 _ (0, 0) _ rfl H1.out Try.underlying44 rfl (by rw [arr_size, num_length]; kernel_rfl)) rfl ⟨rfl, V12.out.below⟩


/-! ### impl_element_times: function 65 -/
set_option maxHeartbeats 1000000 in
set_option maxRecDepth 100000 in
theorem impl_element_times.calls (x y : Nat) (w : World) (hx : x < BB) (hy : y < BB) :
    Calls Try.prog 65 #[.agg (arr .u64 (num x)), .agg (arr .u64 (num y))] w fun e w' => e = .returned (.agg (arr .u64 (num (x * y % PP)))) ∧ Below w.heap.size w w' := by
  have HT := Aside0.mk (fun W => impl_number_times.calls x y W hx hy)
  have HR := Aside0.mk (fun W => impl_wide_reduced.calls (x * y) W (Nat.mul_lt_mul'' hx hy))
  clear hx hy
  generalize x * y % PP = r at *
  generalize x * y = z at *
  have S := Aside0.mk ((((St.start w).push rfl 44 .u64 (num x)).push (World.size_alloc ..) 44 .u64 (num y)).push (by rw [World.size_alloc, World.size_alloc]; rfl) 44 .u64 z4)
  go_enter Try.func65, Try.ntmps65
  go_wp2_with (first
    | ((with_reducible refine gate_dst (N := 5) rfl ?_); refine ld_arr rfl 44 (.tmp 2) rfl w.heap.size rfl (S.out.blk 0 rfl) Try.underlying44 (m := 4) (by kernel_rfl) (num_length _) ?_)
    | ((with_reducible refine gate_dst (N := 6) rfl ?_); refine ld_arr rfl 44 (.tmp 3) rfl (w.heap.size + 1) rfl (S.out.blk 1 rfl) Try.underlying44 (m := 4) (by kernel_rfl) (num_length _) ?_)
    | ((with_reducible refine (HT.out _).mono ?_); rintro e w1 ⟨rfl, hb⟩; have S1 := Aside0.mk (S.out.step hb); clear hb)
    | ((with_reducible refine (HR.out _).mono ?_); rintro e w2 ⟨rfl, hb⟩; have S2 := Aside0.mk (S1.out.step hb); clear hb)
    | (refine st_arr rfl 44 (.tmp 4) (.tmp 8) rfl (w.heap.size + 2) (xs := num r) rfl rfl (S2.out.blk 2 rfl) (m := 4) (by kernel_rfl) (num_length _) (by rw [num_length]; rfl) ?_; intro w' h1 h2 h4 h3; have H1 := Aside0.mk h1; have S3 := Aside0.mk (S2.out.row 2 rfl h1 h2 h3); clear h1 h2 h3 h4))
  exact bodyPost_ret (results_cell_row Try.results65 _ _ (w.heap.size + 2) 44 _ (0, 0) _ rfl H1.out Try.underlying44 rfl (by rw [arr_size, num_length]; kernel_rfl)) rfl ⟨rfl, S3.out.below⟩


/-! ### impl_element_isZero: function 68 -/
set_option maxHeartbeats 1000000 in
set_option maxRecDepth 100000 in
theorem impl_element_isZero.calls (x : Nat) (w : World) (hx : x < BB) :
    Calls Try.prog 68 #[.agg (arr .u64 (num x))] w fun e w' => e = .returned (.bool (decide (x = 0))) ∧ Below w.heap.size w w' := by
  have S := Aside0.mk ((St.start w).push rfl 44 .u64 (num x))
  have hd := num_zero x hx
  have LX := Aside0.mk (num_length x)
  rw [hd]
  clear hd hx
  generalize num x = xs at *
  have HE := fun W => (show (Op.equalIn 10000 44 (.agg (arr .u64 xs)) (.agg #[.int .u64 0, .int .u64 0, .int .u64 0, .int .u64 0])).run Try.prog W = _ from run_eq_arr 9998 44 34 4 .u64 .u64 xs [0, 0, 0, 0] Try.underlying44 (by kernel_rfl) (by kernel_rfl) Try.underlying34 LX.out rfl)
  go_enter Try.func68, Try.ntmps68
  go_wp2_with (first
    | ((with_reducible refine gate_dst (N := 3) rfl ?_); refine ld_arr rfl 44 (.tmp 1) rfl w.heap.size rfl (S.out.blk 0 rfl) Try.underlying44 (m := 4) (by kernel_rfl) LX.out ?_))
  go_ret
  exact ⟨rfl, S.out.below⟩


/-! ### impl_element_power: function 96 -/
set_option maxHeartbeats 1000000 in
set_option maxRecDepth 100000 in
theorem impl_element_power.calls (a n : Nat) (w : World) (ha : a < BB) (hn : n < P64 ^ 4) :
    Calls Try.prog 96 #[.agg (arr .u64 (num a)), .agg (arr .u64 (num n))] w fun e w' => e = .returned (.agg (arr .u64 (num (a ^ n % PP)))) ∧ Below w.heap.size w w' := by
  have hPB : PP < BB := by decide
  have H0 := Aside0.mk (show a ^ (n / 2 ^ 256) % PP = 1 by rw [wide_top0 n 4 256 hn rfl, Nat.pow_zero]; decide)
  have LN := Aside0.mk (num_length n)
  have HTT := Aside0.mk (fun x y W (hx : x < PP) (hy : y < BB) => impl_element_times.calls x y W (Nat.lt_trans hx hPB) hy)
  have HPB := Aside0.mk hPB
  have HA := Aside0.mk ha
  clear hPB ha hn
  have S := Aside0.mk ((((St.start w).push rfl 44 .u64 (num a)).push (World.size_alloc ..) 36 .u64 (num n)).push (by rw [World.size_alloc, World.size_alloc]; rfl) 44 .u64 z4)
  have S0 := Aside0.mk (S.out.push (by rw [World.size_alloc, World.size_alloc, World.size_alloc]; rfl) 44 .u64 z4)
  go_enter Try.func96, Try.ntmps96
  go_wp2_with (first
    | (refine st_arr rfl 44 (.tmp 5) (.tmp 7) rfl (w.heap.size + 3) (xs := [1, 0, 0, 0]) rfl rfl (S0.out.blk 3 rfl) (m := 4) (by kernel_rfl) rfl rfl ?_; intro w1 h1 h2 h4 h3; have S1 := Aside0.mk (S0.out.row 3 rfl h1 h2 h3); clear h1 h2 h3 h4))
  go_loopg [6] 257 (fun gg s6 wr => ∃ k : Nat, k ≤ 256 ∧ k ≤ gg ∧ s6 = .int .i64 ((k : Int) - 1) ∧ Aside0 (St w [⟨44, .u64, num a⟩, ⟨36, .u64, num n⟩, ⟨44, .u64, z4⟩, ⟨44, .u64, num (a ^ (n / 2 ^ k) % PP)⟩] wr))
  case atStart => exact ⟨256, Nat.le_refl _, by omega, rfl, by rw [H0.out, ← num_small 1 (by decide)]; exact S1⟩
  case round =>
    obtain ⟨k, hk, hg, rfl, S2⟩ := hrel
    rcases Nat.eq_zero_or_pos k with h0 | h0
    · subst h0
      have e0 : ((0 : Nat) : Int) - 1 = -1 := rfl
      rw [e0]
      rw [Nat.pow_zero, Nat.div_one] at S2
      go_wp2_with (first
        | ((with_reducible refine gate_dst (N := 27) rfl ?_); refine ld_arr rfl 44 (.tmp 5) rfl (w.heap.size + 3) rfl (S2.out.blk 3 rfl) Try.underlying44 (m := 4) (by kernel_rfl) (num_length _) ?_)
        | (refine st_arr rfl 44 (.tmp 4) (.tmp 27) rfl (w.heap.size + 2) (xs := num (a ^ n % PP)) rfl rfl (S2.out.blk 2 rfl) (m := 4) (by kernel_rfl) (num_length _) (by rw [num_length]; rfl) ?_; intro w' h1 h2 h4 h3; have H1 := Aside0.mk h1; have S3 := Aside0.mk (S2.out.row 2 rfl h1 h2 h3); clear h1 h2 h3 h4))
      exact bodyPost_ret (results_cell_row Try.results96 _ _ (w.heap.size + 2) 44 _ (0, 0) _ rfl H1.out Try.underlying44 rfl (by rw [arr_size, num_length]; kernel_rfl)) rfl ⟨rfl, S3.out.below⟩
    · obtain ⟨i, rfl⟩ : ∃ i, k = i + 1 := ⟨k - 1, by omega⟩
      have e0 : (((i + 1 : Nat)) : Int) - 1 = (i : Int) := by omega
      rw [e0]
      have hi0 : (i : Int) ≥ 0 := by omega
      have hi5 : i < 256 := by omega
      have hbit := num_and n i hi5
      obtain ⟨b, hb⟩ : ∃ b, b = n / 2 ^ i % 2 := ⟨_, rfl⟩
      rw [← hb] at hbit
      obtain ⟨x, hx⟩ : ∃ x, x = a ^ (n / 2 ^ (i + 1)) % PP := ⟨_, rfl⟩
      have hxP : x < PP := by rw [hx]; exact Nat.mod_lt _ PP_pos
      have hxm : x % PP = a ^ (n / 2 ^ (i + 1)) % PP := by rw [hx, Nat.mod_mod]
      rw [← hx] at S2
      obtain ⟨y, hy⟩ : ∃ y, y = x * x % PP := ⟨_, rfl⟩
      have hyP : y < PP := by rw [hy]; exact Nat.mod_lt _ PP_pos
      have HM1 := Aside0.mk (fun W => HTT.out x x W hxP (Nat.lt_trans hxP HPB.out))
      rw [← hy] at HM1
      have HM2 := Aside0.mk (fun W => HTT.out y a W hyP HA.out)
      obtain ⟨j, hj⟩ : ∃ j : Nat, j = i / 64 := ⟨_, rfl⟩
      obtain ⟨q, hq⟩ : ∃ q : Nat, q = i % 64 := ⟨_, rfl⟩
      have hj1 : (i : Int) / 64 = (j : Int) := by omega
      have hj3 : (i : Int).tdiv 64 = (j : Int) := by rw [Int.tdiv_eq_ediv_of_nonneg (by omega)]; omega
      have hq1 : (i : Int) % 64 = (q : Int) := by omega
      have hq2 : (i : Int).tmod 64 = (q : Int) := by rw [Int.tmod_eq_emod_of_nonneg (by omega)]; omega
      have j8 : (j : Int) < 4 := by omega
      have q63 : (q : Int) < 64 := by omega
      have j8n : j < 4 := by omega
      have q63n : q < 64 := by omega
      have m63 : min q 64 = q := by omega
      have wj : IntKind.i64.wrap (j : Int) = (j : Int) := by rw [IntKind.wrap_i64]; omega
      have wq : IntKind.i64.wrap (q : Int) = (q : Int) := by rw [IntKind.wrap_i64]; omega
      have r1 := getD_range (num_ok n) j (by rw [num_length]; omega)
      have r2 := r1.1
      clear r1
      rw [← hj, ← hq] at hbit
      have c1 := fun W (h : St w [⟨44, .u64, num a⟩, ⟨36, .u64, num n⟩, ⟨44, .u64, z4⟩, ⟨44, .u64, num (y)⟩] W) => h.cell 1 rfl j (by rw [LN.out]; omega)
      have C1 := Aside0.mk c1
      generalize (num n).getD j 0 = v1 at *
      clear c1
      rcases Nat.mod_two_eq_zero_or_one (n / 2 ^ i) with hb0 | hb0
      · have hpw := pow_sq a n i x hb0 hxm
        rw [← hy] at hpw
        have HY := Aside0.mk hpw
        rw [hb0] at hb
        subst hb
        clear hpw hb0 hxm hxP hyP hx hy hj hq e0
        have hbit0 : bits .and .u64 (v1 / 2 ^ q) 1 = 0 := hbit
        clear hbit
        go_wp2_with (first
          | ((with_reducible refine gate_dst (N := 12) rfl ?_); refine ld_arr rfl 44 (.tmp 5) rfl (w.heap.size + 3) rfl (S2.out.blk 3 rfl) Try.underlying44 (m := 4) (by kernel_rfl) (num_length _) ?_)
          | ((with_reducible refine gate_dst (N := 13) rfl ?_); refine ld_arr rfl 44 (.tmp 5) rfl (w.heap.size + 3) rfl (S2.out.blk 3 rfl) Try.underlying44 (m := 4) (by kernel_rfl) (num_length _) ?_)
          | ((with_reducible refine (HM1.out _).mono ?_); rintro e w3 ⟨rfl, hb⟩; have S3 := Aside0.mk (S2.out.step hb); clear hb)
          | (refine st_arr rfl 44 (.tmp 5) (.tmp 14) rfl (w.heap.size + 3) (xs := num y) rfl rfl (S3.out.blk 3 rfl) (m := 4) (by kernel_rfl) (num_length _) (by rw [num_length, num_length]) ?_; intro w4 h1 h2 h4 h3; have S4 := Aside0.mk (S3.out.row 3 rfl h1 h2 h3); have c1 := C1.out _ S4.out; clear h1 h2 h3 h4))
        go_roundg i
        case measure => omega
        case rel => exact ⟨i, by omega, Nat.le_refl _, by go_num, by rw [← HY.out]; exact S4⟩
      · have hpw := pow_sq1 a n i x hb0 hxm y (by rw [hy, Nat.mod_mod])
        have HY := Aside0.mk hpw
        rw [hb0] at hb
        subst hb
        clear hpw hb0 hxm hxP hyP hx hy hj hq e0
        have hbit0 : bits .and .u64 (v1 / 2 ^ q) 1 = 1 := hbit
        clear hbit
        go_wp2_with (first
          | ((with_reducible refine gate_dst (N := 12) rfl ?_); refine ld_arr rfl 44 (.tmp 5) rfl (w.heap.size + 3) rfl (S2.out.blk 3 rfl) Try.underlying44 (m := 4) (by kernel_rfl) (num_length _) ?_)
          | ((with_reducible refine gate_dst (N := 13) rfl ?_); refine ld_arr rfl 44 (.tmp 5) rfl (w.heap.size + 3) rfl (S2.out.blk 3 rfl) Try.underlying44 (m := 4) (by kernel_rfl) (num_length _) ?_)
          | ((with_reducible refine (HM1.out _).mono ?_); rintro e w3 ⟨rfl, hb⟩; have S3 := Aside0.mk (S2.out.step hb); clear hb)
          | (refine st_arr rfl 44 (.tmp 5) (.tmp 14) rfl (w.heap.size + 3) (xs := num y) rfl rfl (S3.out.blk 3 rfl) (m := 4) (by kernel_rfl) (num_length _) (by rw [num_length, num_length]) ?_; intro w4 h1 h2 h4 h3; have S4 := Aside0.mk (S3.out.row 3 rfl h1 h2 h3); have c1 := C1.out _ S4.out; clear h1 h2 h3 h4)
          | ((with_reducible refine gate_dst (N := 24) rfl ?_); refine ld_arr rfl 44 (.tmp 5) rfl (w.heap.size + 3) rfl (S4.out.blk 3 rfl) Try.underlying44 (m := 4) (by kernel_rfl) (num_length _) ?_)
          | ((with_reducible refine gate_dst (N := 25) rfl ?_); refine ld_arr rfl 44 (.tmp 2) rfl w.heap.size rfl (S4.out.blk 0 rfl) Try.underlying44 (m := 4) (by kernel_rfl) (num_length _) ?_)
          | ((with_reducible refine (HM2.out _).mono ?_); rintro e w5 ⟨rfl, hb⟩; have S5 := Aside0.mk (S4.out.step hb); clear hb)
          | (refine st_arr rfl 44 (.tmp 5) (.tmp 26) rfl (w.heap.size + 3) (xs := num (y * a % PP)) rfl rfl (S5.out.blk 3 rfl) (m := 4) (by kernel_rfl) (num_length _) (by rw [num_length, num_length]) ?_; intro w6 h1 h2 h4 h3; have S6 := Aside0.mk (S5.out.row 3 rfl h1 h2 h3); clear h1 h2 h3 h4))
        go_roundg i
        case measure => omega
        case rel => exact ⟨i, by omega, Nat.le_refl _, by go_num, by rw [← HY.out]; exact S6⟩


/-! ### impl_element_inverse: function 69 -/
set_option maxHeartbeats 1000000 in
set_option maxRecDepth 100000 in
theorem impl_element_inverse.calls (a : Nat) (w : World) (ha : a < BB) :
    Calls Try.prog 69 #[.agg (arr .u64 (num a))] w fun e w' => e = .returned (.agg (arr .u64 (num (a ^ (PP - 2) % PP)))) ∧ Below w.heap.size w w' := by
  have HS2 := Aside0.mk (fun W' => (show Calls Try.prog 95 #[.int .u64 2] W' _ from impl_small.calls 2 W' (by decide)))
  obtain ⟨bw, HM⟩ : ∃ bw : Value, Aside0 (∀ W, Calls Try.prog 84 #[.agg (arr .u64 (num PP)), .agg (arr .u64 (num 2))] W fun e w' => e = .returned (.tuple #[.agg (arr .u64 (num (PP - 2))), bw]) ∧ Below W.heap.size W w') := ⟨_, ⟨fun W => by
    have h := impl_number_minus.calls PP 2 W
    rw [show num (PP % P64 ^ 4 + P64 ^ 4 - 2 % P64 ^ 4) = num (PP - 2) from by decide] at h
    exact h⟩⟩
  have HW := Aside0.mk (fun W => impl_element_power.calls a (PP - 2) W ha (by decide))
  clear ha
  generalize PP - 2 = n at *
  generalize a ^ n % PP = r at *
  have S := Aside0.mk (((St.start w).push rfl 44 .u64 (num a)).push (World.size_alloc ..) 44 .u64 z4)
  go_enter Try.func69, Try.ntmps69
  go_wp2_with (first
    | ((with_reducible refine (impl_prime.calls _).mono ?_); rintro e w1 ⟨rfl, hb⟩; have S1 := Aside0.mk (S.out.step hb); clear hb)
    | ((with_reducible refine (HS2.out _).mono ?_); rintro e w2 ⟨rfl, hb⟩; have S2 := Aside0.mk (S1.out.step hb); clear hb)
    | ((with_reducible refine (HM.out _).mono ?_); rintro e w3 ⟨rfl, hb⟩; have S3 := Aside0.mk (S2.out.step hb); clear hb)
    | (refine st_arr rfl 36 (.tmp 3) (.tmp 9) rfl w3.heap.size (xs := num n) rfl rfl (blk_new w3 (.cells (arr .u64 z4) 36)) (m := 4) (by kernel_rfl) (num_length _) (by rw [num_length]; rfl) ?_; intro w4 h1 h2 h4 h3; have G4 := Aside0.mk h1; have S4 := Aside0.mk (St.other (S3.out.alloc (.cells (arr .u64 z4) 36)) h2 h3 S3.out.size); clear h1 h2 h3 h4)
    | ((with_reducible refine gate_dst (N := 11) rfl ?_); refine ld_arr rfl 44 (.tmp 1) rfl w.heap.size rfl (S4.out.blk 0 rfl) Try.underlying44 (m := 4) (by kernel_rfl) (num_length _) ?_)
    | ((with_reducible refine gate_dst (N := 12) rfl ?_); refine ld_arr rfl 36 (.tmp 3) rfl w3.heap.size rfl G4.out Try.underlying36 (m := 4) (by kernel_rfl) (num_length _) ?_)
    | ((with_reducible refine (HW.out _).mono ?_); rintro e w5 ⟨rfl, hb⟩; have S5 := Aside0.mk (S4.out.step hb); clear hb)
    | (refine st_arr rfl 44 (.tmp 2) (.tmp 13) rfl (w.heap.size + 1) (xs := num r) rfl rfl (S5.out.blk 1 rfl) (m := 4) (by kernel_rfl) (num_length _) (by rw [num_length]; rfl) ?_; intro w' h1 h2 h4 h3; have H1 := Aside0.mk h1; have S6 := Aside0.mk (S5.out.row 1 rfl h1 h2 h3); clear h1 h2 h3 h4))
  exact bodyPost_ret (results_cell_row Try.results69 _ _ (w.heap.size + 1) 44 _ (0, 0) _ rfl H1.out Try.underlying44 rfl (by rw [arr_size, num_length]; kernel_rfl)) rfl ⟨rfl, S6.out.below⟩


/-! ### impl_element_isOdd: function 91 -/
theorem num_odd (x : Nat) : bits .and .u64 ((num x).getD 0 0) 1 = ((x % 2 : Nat) : Int) := by
  have h := num_and x 0 (by omega)
  simpa using h
set_option maxHeartbeats 1000000 in
set_option maxRecDepth 100000 in
theorem impl_element_isOdd.calls (x : Nat) (w : World) :
    Calls Try.prog 91 #[.agg (arr .u64 (num x))] w fun e w' => e = .returned (.bool (decide (x % 2 = 1))) ∧ Below w.heap.size w w' := by
  have hb := num_odd x
  have S := Aside0.mk ((St.start w).push rfl 44 .u64 (num x))
  have c0 := S.out.cell 0 rfl 0 (by rw [num_length]; omega)
  rw [Nat.add_zero] at c0
  generalize (num x).getD 0 0 = v at *
  rcases Nat.mod_two_eq_zero_or_one x with h | h
  · rw [h] at hb
    rw [decide_eq_false (by omega)]
    have hb0 : bits .and .u64 v 1 = 0 := hb
    clear hb h
    go_enter Try.func91, Try.ntmps91
    go_wp2
    go_ret
    exact ⟨rfl, S.out.below⟩
  · rw [h] at hb
    rw [decide_eq_true h]
    have hb0 : bits .and .u64 v 1 = 1 := hb
    clear hb h
    go_enter Try.func91, Try.ntmps91
    go_wp2
    go_ret
    exact ⟨rfl, S.out.below⟩


/-! ### impl_imaginary: function 98 -/
def imaginaryN : Nat := 19681161376707505956807079304988542015446066515923890162744021073123829784752
theorem num_imaginary : [14190309331451158704, 3405592160176694392, 3120150775007532967, 3135389899092516619] = num imaginaryN := by decide
set_option maxHeartbeats 1000000 in
set_option maxRecDepth 100000 in
theorem impl_imaginary.calls (w : World) :
    Calls Try.prog 98 #[] w fun e w' => e = .returned (.agg (arr .u64 (num imaginaryN))) ∧ Below w.heap.size w w' := by
  rw [← num_imaginary]
  go_enter Try.func98, Try.ntmps98
  go_wp2
  exact bodyPost_ret (results_cell_row Try.results98 _ _ w.heap.size 44 _ (0, 0) _ rfl (blk_new w _) Try.underlying44 rfl (by kernel_rfl)) rfl ⟨by rfl, below_alloc (Below.refl _ _) _⟩


/-! ### impl_element_negative: function 99 -/
set_option maxHeartbeats 1000000 in
set_option maxRecDepth 100000 in
theorem impl_element_negative.calls (a : Nat) (w : World) (ha : a < PP) :
    Calls Try.prog 99 #[.agg (arr .u64 (num a))] w fun e w' => e = .returned (.agg (arr .u64 (num ((PP - a) % PP)))) ∧ Below w.heap.size w w' := by
  have HM := Aside0.mk (fun W => impl_element_minus.calls 0 a W (by decide) ha)
  rw [Nat.zero_add, show num 0 = [0, 0, 0, 0] from by decide] at HM
  clear ha
  generalize (PP - a) % PP = r at *
  have S := Aside0.mk (((St.start w).push rfl 44 .u64 (num a)).push (World.size_alloc ..) 44 .u64 z4)
  go_enter Try.func99, Try.ntmps99
  go_wp2_with (first
    | ((with_reducible refine gate_dst (N := 4) rfl ?_); refine ld_arr rfl 44 (.tmp 1) rfl w.heap.size rfl (S.out.blk 0 rfl) Try.underlying44 (m := 4) (by kernel_rfl) (num_length _) ?_)
    | ((refine (HM.out _).mono ?_); rintro e w1 ⟨rfl, hb⟩; have S1 := Aside0.mk (S.out.step hb); clear hb)
    | (refine st_arr rfl 44 (.tmp 2) (.tmp 5) rfl (w.heap.size + 1) (xs := num r) rfl rfl (S1.out.blk 1 rfl) (m := 4) (by kernel_rfl) (num_length _) (by rw [num_length]; rfl) ?_; intro w' h1 h2 h4 h3; have H1 := Aside0.mk h1; have S2 := Aside0.mk (S1.out.row 1 rfl h1 h2 h3); clear h1 h2 h3 h4))
  exact bodyPost_ret (results_cell_row Try.results99 _ _ (w.heap.size + 1) 44 _ (0, 0) _ rfl H1.out Try.underlying44 rfl (by rw [arr_size, num_length]; kernel_rfl)) rfl ⟨rfl, S2.out.below⟩


end Go.Proofs.Ytijeackkgcnbgaa.XO
