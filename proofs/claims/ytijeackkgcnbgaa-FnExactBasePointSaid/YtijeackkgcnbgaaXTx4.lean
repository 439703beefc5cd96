-- Written by a program of this session (xp.py over the kit's printer, with functions proved by hand). Lean checks it.
import Derived.Test.YtijeackkgcnbgaaXTx0
import Derived.Test.YtijeackkgcnbgaaXTx2
import Derived.Test.YtijeackkgcnbgaaXTx3
namespace Go.Proofs.Ytijeackkgcnbgaa.XT
open Go.Proofs.Ytijeackkgcnbgaa.Limb Go.Proofs.Ytijeackkgcnbgaa.Arr Go.Proofs.Ytijeackkgcnbgaa.FldA Go.Proofs.Ytijeackkgcnbgaa.FldB Go.Proofs.Ytijeackkgcnbgaa.FldC Go.Proofs.Ytijeackkgcnbgaa.FldS Go.Proofs.Ytijeackkgcnbgaa.FldP Go.Proofs.Ytijeackkgcnbgaa.FldW Go.Proofs.Ytijeackkgcnbgaa.FldM Go.Proofs.Ytijeackkgcnbgaa.FldT Go.Proofs.Ytijeackkgcnbgaa.St Go.Proofs.Ytijeackkgcnbgaa.StOps Go.Proofs.Ytijeackkgcnbgaa.StMid Go.Proofs.Ytijeackkgcnbgaa.StEq Go.Proofs.Ytijeackkgcnbgaa.StIdx
open Go.RowKit Go.Proofs.YtijeackkgcnbgaaW.PrintWords Go.Proofs.YtijeackkgcnbgaaW.PrintLast Go.Proofs.YtijeackkgcnbgaaW.PrintMore
attribute [local go_sem] max2_int min2_int max_two min_two max_three min_three max_four min_four   -- for this text's walks alone
set_option linter.unusedVariables false
set_option linter.unusedSimpArgs false

/-! ### impl_wide_reduced: function 92 -/
set_option maxHeartbeats 1000000 in
set_option maxRecDepth 100000 in
theorem impl_wide_reduced.calls (W : Nat) (w : World) (hW : W < BB * BB) :
    Calls Try.prog 92 #[.agg (arr .u64 (wid W))] w fun e w' => e = .returned (.agg (arr .u64 (num (W % PP)))) ∧ Below w.heap.size w w' := by
  obtain ⟨H, hH⟩ : ∃ H, H = W / BB := ⟨_, rfl⟩
  obtain ⟨X, hX⟩ : ∃ X, X = H * 38 := ⟨_, rfl⟩
  obtain ⟨q, hq⟩ : ∃ q, q = X / BB := ⟨_, rfl⟩
  obtain ⟨c1, hc1⟩ : ∃ c1, c1 = (W % BB + X % BB) / BB := ⟨_, rfl⟩
  obtain ⟨l1, hl1⟩ : ∃ l1, l1 = (W % BB + X % BB) % BB := ⟨_, rfl⟩
  obtain ⟨m, hm⟩ : ∃ m, m = (q + c1) * 38 := ⟨_, rfl⟩
  obtain ⟨c2, hc2⟩ : ∃ c2, c2 = (l1 + m) / BB := ⟨_, rfl⟩
  obtain ⟨l2, hl2⟩ : ∃ l2, l2 = (l1 + m) % BB := ⟨_, rfl⟩
  obtain ⟨m2, hm2⟩ : ∃ m2, m2 = 38 * c2 := ⟨_, rfl⟩
  have hBp : 0 < BB := by decide
  have rr := red_ranges W hW
  rw [← hH, ← hX, ← hq, ← hc1] at rr
  obtain ⟨rH, rq, rc1⟩ := rr
  have rm : m ≤ 2000 := by rw [hm]; omega
  have rl1 : l1 < BB := by rw [hl1]; exact Nat.mod_lt _ hBp
  have rl2 : l2 < BB := by rw [hl2]; exact Nat.mod_lt _ hBp
  have rmB : m < BB := Nat.lt_of_le_of_lt rm (by decide)
  have rc2 : c2 < 2 := by
    rw [hc2, Nat.div_lt_iff_lt_mul hBp]; omega
  have HSUM := red_sum (W % BB) H q c1 c2 l1 l2 (X % BB) m (by rw [← hX, hq]; have := Nat.div_add_mod X BB; omega) (by rw [hl1, hc1]; have := Nat.div_add_mod (W % BB + X % BB) BB; omega) hm (by rw [hl2, hc2]; have := Nat.div_add_mod (l1 + m) BB; omega) rl1 rl2 rm
  rw [← hm2, hH, Nat.mod_add_div] at HSUM
  obtain ⟨hs1, hs2⟩ := HSUM
  have HS38 := Aside0.mk (fun W' => (show Calls Try.prog 95 #[.int .u64 38] W' _ from impl_small.calls 38 W' (by decide)))
  have HT := Aside0.mk (fun W' => impl_number_times.calls H 38 W' rH (by decide))
  rw [← hX] at HT
  have HP1 := Aside0.mk (fun W' => impl_number_plus.calls W X W')
  rw [b4, ← hc1, ← num_mod (W + X), Nat.add_mod, ← hl1] at HP1
  have HS1 := Aside0.mk (fun W' => impl_small.calls m W' (by omega))
  have HP2 := Aside0.mk (fun W' => impl_number_plus.calls l1 m W')
  rw [b4, Nat.mod_eq_of_lt rl1, Nat.mod_eq_of_lt rmB, ← hc2, ← num_mod (l1 + m), ← hl2] at HP2
  have HS2 := Aside0.mk (fun W' => impl_small.calls m2 W' (by omega))
  obtain ⟨cv, HP3⟩ : ∃ cv : Value, Aside0 (∀ W', Calls Try.prog 82 #[.agg (arr .u64 (num l2)), .agg (arr .u64 (num m2))] W' fun e w' => e = .returned (.tuple #[.agg (arr .u64 (num (l2 + m2))), cv]) ∧ Below W'.heap.size W' w') := ⟨_, ⟨fun W' => impl_number_plus.calls l2 m2 W'⟩⟩
  have HQ := Aside0.mk (fun W' => impl_number_reduced.calls (l2 + m2) W')
  rw [Nat.mod_eq_of_lt hs1, hs2] at HQ
  have HW4 := Aside0.mk (show num (W / P64 ^ 4) = num H by rw [b4, hH])
  have hwt := wid_top X (by rw [← hq]; exact rq)
  rw [← hq] at hwt
  have HWT := Aside0.mk hwt
  have i1 : (q : Int) + (c1 : Int) = ((q + c1 : Nat) : Int) := by omega
  have i2 : ((q + c1 : Nat) : Int) * 38 = (m : Int) := by rw [hm]; omega
  have i3 : 38 * (c2 : Int) = (m2 : Int) := by rw [hm2]; omega
  have i4 : (m2 : Int) < 100 := by omega
  have i7 : IntKind.u64.wrap (m2 : Int) = (m2 : Int) := by rw [IntKind.wrap_u64]; omega
  have i5 : (m : Int) ≤ 2000 := by omega
  have i6 : ((q + c1 : Nat) : Int) < 100 := by omega
  generalize q + c1 = qc at *
  generalize W % PP = r at *
  clear hwt hs1 hs2 rc2 rmB rl2 rl1 rm rH rq rc1 hBp hm2 hl2 hc2 hm hl1 hc1 hq hX hH hW
  have S := Aside0.mk (((St.start w).push rfl 74 .u64 (wid W)).push (World.size_alloc ..) 44 .u64 z4)
  have hat := fun (a : Option Addr) (c : Nat) W => run_arrayAt (P := Try.prog) W 36 34 4 a 4 c Try.underlying36 (by decide)
  go_enter Try.func92, Try.ntmps92
  go_wp2
  refine abs_world (bs := [⟨74, .u64, wid W⟩, ⟨44, .u64, z4⟩]) S.out ?_
  clear S
  intro W0 hS
  have T := Aside0.mk hS.drew
  clear hS
  refine start_ (n := 10) (S := fun w' => St w [⟨74, .u64, wid W⟩, ⟨44, .u64, z4⟩] w') (ds := []) #[false, false, false, false, false, false, false, false, false, false] (by kernel_rfl) rfl rfl (T.out) (fun hHeld => ?_)
  refine pure_ (i := 0) (N := some 8) (v := ?_) (a' := ?_) #[true, false, false, false, false, false, false, false, false, false] rfl rfl (by kernel_rfl) (fun _ _ _ h => h) (Or.inl ⟨by rfl, ?_⟩) ?_ ?_
  rotate_left
  · intro w'; go_simp; with_reducible rfl
  rotate_left
  · simp only [Act.put, OpenRow.s1, OpenRow.s2, OpenRow.s3, i64_w, i32_w]; rfl
  refine pure_ (i := 1) (N := some 9) (v := ?_) (a' := ?_) #[true, true, false, false, false, false, false, false, false, false] rfl rfl (by kernel_rfl) (fun _ _ _ h => h) (Or.inl ⟨by rfl, ?_⟩) ?_ ?_
  rotate_left
  · intro w'; go_simp; with_reducible rfl
  rotate_left
  · simp only [Act.put, OpenRow.s1, OpenRow.s2, OpenRow.s3, i64_w, i32_w]; rfl
  refine pure_ (i := 3) (N := some 11) (v := ?_) (a' := ?_) #[true, true, false, true, false, false, false, false, false, false] rfl rfl (by kernel_rfl) (fun _ _ _ h => h) (Or.inl ⟨by rfl, ?_⟩) ?_ ?_
  rotate_left
  · intro w'; go_simp; with_reducible rfl
  rotate_left
  · simp only [Act.put, OpenRow.s1, OpenRow.s2, OpenRow.s3, i64_w, i32_w]; rfl
  refine pure_ (i := 4) (N := some 12) (v := ?_) (a' := ?_) #[true, true, false, true, true, false, false, false, false, false] rfl rfl (by kernel_rfl) (fun _ _ _ h => h) (Or.inl ⟨by rfl, ?_⟩) ?_ ?_
  rotate_left
  · intro w'; go_simp; with_reducible rfl
  rotate_left
  · simp only [Act.put, OpenRow.s1, OpenRow.s2, OpenRow.s3, i64_w, i32_w]; rfl
  refine take_ (i := 2) (N := some 10) (v := ?_) (a' := ?_) #[true, true, true, true, true, false, false, false, false, false] rfl rfl (by kernel_rfl) (fun _ _ _ h => h) (Or.inl ⟨by rfl, ?_⟩) hHeld ?_ ?_
  rotate_left
  · intro w' s0
    refine (run_ldm 36 (.tmp 9) (by rfl) w.heap.size 0 (by rfl) (num W) (s0.blk 0 rfl) (wid_low W) Try.underlying36 (m := 4) (by kernel_rfl) (num_length _)).trans ?_; with_reducible rfl
  rotate_left
  · simp only [Act.put, OpenRow.s1, OpenRow.s2, OpenRow.s3, i64_w, i32_w]; rfl
  refine take_ (i := 5) (N := some 13) (v := ?_) (a' := ?_) #[true, true, true, true, true, true, false, false, false, false] rfl rfl (by kernel_rfl) (fun _ _ _ h => h) (Or.inl ⟨by rfl, ?_⟩) hHeld ?_ ?_
  rotate_left
  · intro w' s0
    refine (run_ldm 36 (.tmp 12) (by rfl) w.heap.size 4 (by rfl) (num (W / P64 ^ 4)) (s0.blk 0 rfl) (wid_high W) Try.underlying36 (m := 4) (by kernel_rfl) (num_length _)).trans ?_; with_reducible rfl
  rotate_left
  · simp only [Act.put, OpenRow.s1, OpenRow.s2, OpenRow.s3, i64_w, i32_w]; rfl
  refine join_ (σ := Nat × Nat) 2 #[true, true, true, true, true, true, true, true, false, false] (fun s_ => [(3, .pointer (some ⟨s_.1, 0, none⟩)), (4, .pointer (some ⟨s_.2, 0, none⟩))]) (fun s_ w' => (St w [⟨74, .u64, wid W⟩, ⟨44, .u64, z4⟩] w') ∧ w'.heap[s_.1]? = some (.cells (arr .u64 z4) 36 (0, 0)) ∧ w'.heap[s_.2]? = some (.cells (arr .u64 z4) 36 (0, 0)) ∧ w.heap.size + 2 ≤ s_.1 ∧ w.heap.size + 2 ≤ s_.2 ∧ s_.1 ≠ s_.2) ?_ ?_
  rotate_left
  · intro hCont
    refine two_ (i := 6) (j := 7) (Ni := some 3) (Nj := some 4) #[true, true, true, true, true, true, true, false, false, false] #[true, true, true, true, true, true, false, true, false, false] rfl rfl rfl rfl (by kernel_rfl) (by decide) (by decide) (fun K hK => ?_) (fun K hK => ?_)
    · skip
      refine value_ (w1 := ?_) (v := ?_) (by rfl) rfl ?_ ?_
      rotate_left 2
      · go_simp
        constructor
        · rfl
        · rfl
      have T_6 := Aside0.mk (T.out.alloc (.cells (arr .u64 z4) 36))
      have G6_6 := Aside0.mk (T.out.new (.cells (arr .u64 z4) 36))
      have E6 := Aside0.mk T.out.size
      refine hK.out _ _ (T_6.out) (fun hHeld => ?_)
      clear hK K
      refine norm_ (a' := ?_) ?_ ?_
      rotate_left
      · show Act.put _ (some 3) _ = _
        simp only [Act.put, OpenRow.s1, OpenRow.s2, OpenRow.s3, i64_w, i32_w]
        rfl
      refine one_ (i := 7) (N := some 4) #[true, true, true, true, true, true, true, true, false, false] rfl rfl (by kernel_rfl) (by decide) (fun K hK => ?_)
      refine value_ (w1 := ?_) (v := ?_) (by rfl) rfl ?_ ?_
      rotate_left 2
      · go_simp
        constructor
        · rfl
        · rfl
      have T_6_7 := Aside0.mk (T_6.out.alloc (.cells (arr .u64 z4) 36))
      have G7_6_7 := Aside0.mk (T_6.out.new (.cells (arr .u64 z4) 36))
      have E7 := Aside0.mk T_6.out.size
      have N7 := Aside0.mk (ne_of_blk G6_6.out)
      have G6_6_7 := Aside0.mk (blk_alloc G6_6.out (.cells (arr .u64 z4) 36))
      (try simp only [World.size_alloc] at G7_6_7 E7 N7)
      refine hK.out _ _ (T_6_7.out) (fun hHeld => ?_)
      clear hK K
      refine norm_ (a' := ?_) ?_ ?_
      rotate_left
      · show Act.put _ (some 4) _ = _
        simp only [Act.put, OpenRow.s1, OpenRow.s2, OpenRow.s3, i64_w, i32_w]
        rfl
      exact norm_ (by simp only [putAll, Act.put, List.setIfInBounds_toArray, List.set_cons_zero, List.set_cons_succ] <;> rfl) (hCont (_, _) _ ⟨T_6_7.out, G6_6_7.out, G7_6_7.out, E6.out, E7.out, N7.out⟩)
    · skip
      refine value_ (w1 := ?_) (v := ?_) (by rfl) rfl ?_ ?_
      rotate_left 2
      · go_simp
        constructor
        · rfl
        · rfl
      have T_7 := Aside0.mk (T.out.alloc (.cells (arr .u64 z4) 36))
      have G7_7 := Aside0.mk (T.out.new (.cells (arr .u64 z4) 36))
      have E7 := Aside0.mk T.out.size
      refine hK.out _ _ (T_7.out) (fun hHeld => ?_)
      clear hK K
      refine norm_ (a' := ?_) ?_ ?_
      rotate_left
      · show Act.put _ (some 4) _ = _
        simp only [Act.put, OpenRow.s1, OpenRow.s2, OpenRow.s3, i64_w, i32_w]
        rfl
      refine one_ (i := 6) (N := some 3) #[true, true, true, true, true, true, true, true, false, false] rfl rfl (by kernel_rfl) (by decide) (fun K hK => ?_)
      refine value_ (w1 := ?_) (v := ?_) (by rfl) rfl ?_ ?_
      rotate_left 2
      · go_simp
        constructor
        · rfl
        · rfl
      have T_7_6 := Aside0.mk (T_7.out.alloc (.cells (arr .u64 z4) 36))
      have G6_7_6 := Aside0.mk (T_7.out.new (.cells (arr .u64 z4) 36))
      have E6 := Aside0.mk T_7.out.size
      have N6 := Aside0.mk (ne_of_blk G7_7.out)
      have G7_7_6 := Aside0.mk (blk_alloc G7_7.out (.cells (arr .u64 z4) 36))
      (try simp only [World.size_alloc] at G6_7_6 E6 N6)
      refine hK.out _ _ (T_7_6.out) (fun hHeld => ?_)
      clear hK K
      refine norm_ (a' := ?_) ?_ ?_
      rotate_left
      · show Act.put _ (some 3) _ = _
        simp only [Act.put, OpenRow.s1, OpenRow.s2, OpenRow.s3, i64_w, i32_w]
        rfl
      exact norm_ (by simp only [putAll, Act.put, List.setIfInBounds_toArray, List.set_cons_zero, List.set_cons_succ] <;> rfl) (hCont (_, _) _ ⟨T_7_6.out, G6_7_6.out, G7_7_6.out, E6.out, E7.out, N6.out.symm⟩)
  rintro ⟨g6_, g7_⟩ w9 ⟨hHeld, hG6, hG7, hE6, hE7, hN⟩
  have T9 := Aside0.mk hHeld
  have GG6 := Aside0.mk hG6
  have GG7 := Aside0.mk hG7
  have EE6 := Aside0.mk hE6
  have EE7 := Aside0.mk hE7
  have NN := Aside0.mk hN
  clear hG6 hG7 hE6 hE7 hN
  refine norm_ (a' := ?_) ?_ ?_
  rotate_left
  · simp only [putAll, Act.put, List.setIfInBounds_toArray, List.set_cons_zero, List.set_cons_succ]
    rfl
  refine one_ (i := 8) (N := none) #[true, true, true, true, true, true, true, true, true, false] rfl rfl (by kernel_rfl) (by decide) (fun K hK => ?_)
  refine st_step (by rfl) rfl 36 (.tmp 3) (.tmp 10) rfl g6_ rfl rfl GG6.out (m := 4) (by kernel_rfl) (num_length _) (by first | rfl | (rw [num_length]; rfl) | rw [num_length, num_length]) ?_
  intro w6 h1 h2 h3 h4
  have G3 := Aside0.mk h1
  have T10 := Aside0.mk (St.other T9.out h2 h3 EE6.out)
  have G4 := Aside0.mk ((h2 _ NN.out.symm).trans GG7.out)
  clear h1 h2 h3 h4
  refine hK.out _ _ (T10.out) (fun hHeld => ?_)
  clear hK K
  refine one_ (i := 9) (N := none) #[true, true, true, true, true, true, true, true, true, true] rfl rfl (by kernel_rfl) (by decide) (fun K hK => ?_)
  refine st_step (by rfl) rfl 36 (.tmp 4) (.tmp 13) rfl g7_ rfl rfl G4.out (m := 4) (by kernel_rfl) (num_length _) (by first | rfl | (rw [num_length]; rfl) | rw [num_length, num_length]) ?_
  intro w6 h1 h2 h3 h4
  have G5 := Aside0.mk h1
  have T11 := Aside0.mk (St.other T10.out h2 h3 EE7.out)
  have G6 := Aside0.mk ((h2 _ NN.out).trans G3.out)
  clear h1 h2 h3 h4
  refine hK.out _ _ (T11.out) (fun hHeld => ?_)
  clear hK K
  refine done_ (by kernel_rfl) ?_

  rw [HW4.out] at G5 ⊢
  have EL := Aside0.mk EE6.out
  have U := Aside0.mk T11.out.drew
  have A := Aside0.mk (blk_drew G6.out)
  have B := Aside0.mk (blk_drew G5.out)
  clear T T9 T10 T11 G3 G4 G5 G6 GG6 GG7 EE6 EE7 NN HW4
  go_wp2
  refine start_ (n := 5) (S := fun w' => St w [⟨74, .u64, wid W⟩, ⟨44, .u64, z4⟩] w' ∧ w'.heap[g6_]? = some (.cells (arr .u64 (num (W))) 36 (0, 0)) ∧ w'.heap[g7_]? = some (.cells (arr .u64 (num H)) 36 (0, 0))) (ds := []) #[false, false, false, false, false] (by kernel_rfl) rfl rfl ⟨U.out, A.out, B.out⟩ (fun hHeld => ?_)
  refine take_ (i := 0) (N := some 14) (v := ?_) (a' := ?_) #[true, false, false, false, false] rfl rfl (by kernel_rfl) (fun _ _ _ h => h) (Or.inl ⟨by rfl, ?_⟩) hHeld ?_ ?_
  rotate_left
  · rintro w' ⟨s0, s1, s2⟩
    refine (run_ld 36 (.tmp 4) (by rfl) g7_ (by rfl) s2 Try.underlying36 (m := 4) (by kernel_rfl) (num_length _)).trans ?_; with_reducible rfl
  rotate_left
  · simp only [Act.put, OpenRow.s1, OpenRow.s2, OpenRow.s3, i64_w, i32_w]; rfl
  refine join_ (σ := Nat) 1 #[true, true, true, true, false] (fun s_ => [(15, .agg (arr .u64 (num 38))), (16, .agg (arr .u64 (wid X))), (5, .pointer (some ⟨s_, 0, none⟩))]) (fun s_ w' => (St w [⟨74, .u64, wid W⟩, ⟨44, .u64, z4⟩] w') ∧ (w'.heap[g6_]? = some (.cells (arr .u64 (num (W))) 36 (0, 0))) ∧ (w'.heap[g7_]? = some (.cells (arr .u64 (num H)) 36 (0, 0))) ∧ w'.heap[s_]? = some (.cells (arr .u64 z8) 74 (0, 0)) ∧ w.heap.size + 2 ≤ s_ ∧ g6_ ≠ s_ ∧ g7_ ≠ s_) ?_ ?_
  rotate_left
  · intro hCont
    refine two_ (i := 1) (j := 3) (Ni := some 15) (Nj := some 5) #[true, true, false, false, false] #[true, false, false, true, false] rfl rfl rfl rfl (by kernel_rfl) (by decide) (by decide) (fun K hK => ?_) (fun K hK => ?_)
    · skip
      refine goes_ Try.func95 (by kernel_rfl) rfl #[.int .u64 38] (by rfl) rfl rfl (by simp only [List.map_toArray, List.map_cons, List.map_nil] <;> rfl) ?_
      with_reducible refine (HS38.out _).mono ?_
      rintro e w3 ⟨rfl, hb⟩
      refine ⟨_, rfl, ?_⟩
      have U_1 := Aside0.mk (U.out.step hb)
      have A_1 := Aside0.mk (blk_below A.out hb)
      have B_1 := Aside0.mk (blk_below B.out hb)
      clear hb
      refine hK.out _ _ ⟨U_1.out, A_1.out, B_1.out⟩ (fun hHeld => ?_)
      clear hK K
      refine norm_ (a' := ?_) ?_ ?_
      rotate_left
      · show Act.put _ (some 15) _ = _
        simp only [Act.put, OpenRow.s1, OpenRow.s2, OpenRow.s3, i64_w, i32_w]
        rfl
      refine two_ (i := 2) (j := 3) (Ni := some 16) (Nj := some 5) #[true, true, true, false, false] #[true, true, false, true, false] rfl rfl rfl rfl (by kernel_rfl) (by decide) (by decide) (fun K hK => ?_) (fun K hK => ?_)
      · skip
        refine goes_ Try.func88 (by kernel_rfl) rfl #[.agg (arr .u64 (num H)), .agg (arr .u64 (num 38))] (by rfl) rfl rfl (by simp only [List.map_toArray, List.map_cons, List.map_nil] <;> rfl) ?_
        with_reducible refine (HT.out _).mono ?_
        rintro e w3 ⟨rfl, hb⟩
        refine ⟨_, rfl, ?_⟩
        have U_1_2 := Aside0.mk (U_1.out.step hb)
        have A_1_2 := Aside0.mk (blk_below A_1.out hb)
        have B_1_2 := Aside0.mk (blk_below B_1.out hb)
        clear hb
        refine hK.out _ _ ⟨U_1_2.out, A_1_2.out, B_1_2.out⟩ (fun hHeld => ?_)
        clear hK K
        refine norm_ (a' := ?_) ?_ ?_
        rotate_left
        · show Act.put _ (some 16) _ = _
          simp only [Act.put, OpenRow.s1, OpenRow.s2, OpenRow.s3, i64_w, i32_w]
          rfl
        refine one_ (i := 3) (N := some 5) #[true, true, true, true, false] rfl rfl (by kernel_rfl) (by decide) (fun K hK => ?_)
        refine value_ (w1 := ?_) (v := ?_) (by rfl) rfl ?_ ?_
        rotate_left 2
        · go_simp
          constructor
          · rfl
          · rfl
        have U_1_2_3 := Aside0.mk (U_1_2.out.alloc (.cells (arr .u64 z8) 74))
        have A_1_2_3 := Aside0.mk (blk_alloc A_1_2.out (.cells (arr .u64 z8) 74))
        have B_1_2_3 := Aside0.mk (blk_alloc B_1_2.out (.cells (arr .u64 z8) 74))
        have G3_1_2_3 := Aside0.mk (U_1_2.out.new (.cells (arr .u64 z8) 74))
        have E3 := Aside0.mk U_1_2.out.size
        have M3_0 := Aside0.mk (ne_of_blk A_1_2.out)
        have M3_1 := Aside0.mk (ne_of_blk B_1_2.out)
        refine hK.out _ _ ⟨U_1_2_3.out, A_1_2_3.out, B_1_2_3.out⟩ (fun hHeld => ?_)
        clear hK K
        refine norm_ (a' := ?_) ?_ ?_
        rotate_left
        · show Act.put _ (some 5) _ = _
          simp only [Act.put, OpenRow.s1, OpenRow.s2, OpenRow.s3, i64_w, i32_w]
          rfl
        exact norm_ (by simp only [putAll, Act.put, List.setIfInBounds_toArray, List.set_cons_zero, List.set_cons_succ] <;> rfl) (hCont _ _ ⟨U_1_2_3.out, A_1_2_3.out, B_1_2_3.out, G3_1_2_3.out, E3.out, M3_0.out, M3_1.out⟩)
      · skip
        refine value_ (w1 := ?_) (v := ?_) (by rfl) rfl ?_ ?_
        rotate_left 2
        · go_simp
          constructor
          · rfl
          · rfl
        have U_1_3 := Aside0.mk (U_1.out.alloc (.cells (arr .u64 z8) 74))
        have A_1_3 := Aside0.mk (blk_alloc A_1.out (.cells (arr .u64 z8) 74))
        have B_1_3 := Aside0.mk (blk_alloc B_1.out (.cells (arr .u64 z8) 74))
        have G3_1_3 := Aside0.mk (U_1.out.new (.cells (arr .u64 z8) 74))
        have E3 := Aside0.mk U_1.out.size
        have M3_0 := Aside0.mk (ne_of_blk A_1.out)
        have M3_1 := Aside0.mk (ne_of_blk B_1.out)
        refine hK.out _ _ ⟨U_1_3.out, A_1_3.out, B_1_3.out⟩ (fun hHeld => ?_)
        clear hK K
        refine norm_ (a' := ?_) ?_ ?_
        rotate_left
        · show Act.put _ (some 5) _ = _
          simp only [Act.put, OpenRow.s1, OpenRow.s2, OpenRow.s3, i64_w, i32_w]
          rfl
        refine one_ (i := 2) (N := some 16) #[true, true, true, true, false] rfl rfl (by kernel_rfl) (by decide) (fun K hK => ?_)
        refine goes_ Try.func88 (by kernel_rfl) rfl #[.agg (arr .u64 (num H)), .agg (arr .u64 (num 38))] (by rfl) rfl rfl (by simp only [List.map_toArray, List.map_cons, List.map_nil] <;> rfl) ?_
        with_reducible refine (HT.out _).mono ?_
        rintro e w3 ⟨rfl, hb⟩
        refine ⟨_, rfl, ?_⟩
        have U_1_3_2 := Aside0.mk (U_1_3.out.step hb)
        have A_1_3_2 := Aside0.mk (blk_below A_1_3.out hb)
        have B_1_3_2 := Aside0.mk (blk_below B_1_3.out hb)
        have G3_1_3_2 := Aside0.mk (blk_below G3_1_3.out hb)
        clear hb
        refine hK.out _ _ ⟨U_1_3_2.out, A_1_3_2.out, B_1_3_2.out⟩ (fun hHeld => ?_)
        clear hK K
        refine norm_ (a' := ?_) ?_ ?_
        rotate_left
        · show Act.put _ (some 16) _ = _
          simp only [Act.put, OpenRow.s1, OpenRow.s2, OpenRow.s3, i64_w, i32_w]
          rfl
        exact norm_ (by simp only [putAll, Act.put, List.setIfInBounds_toArray, List.set_cons_zero, List.set_cons_succ] <;> rfl) (hCont _ _ ⟨U_1_3_2.out, A_1_3_2.out, B_1_3_2.out, G3_1_3_2.out, E3.out, M3_0.out, M3_1.out⟩)
    · skip
      refine value_ (w1 := ?_) (v := ?_) (by rfl) rfl ?_ ?_
      rotate_left 2
      · go_simp
        constructor
        · rfl
        · rfl
      have U_3 := Aside0.mk (U.out.alloc (.cells (arr .u64 z8) 74))
      have A_3 := Aside0.mk (blk_alloc A.out (.cells (arr .u64 z8) 74))
      have B_3 := Aside0.mk (blk_alloc B.out (.cells (arr .u64 z8) 74))
      have G3_3 := Aside0.mk (U.out.new (.cells (arr .u64 z8) 74))
      have E3 := Aside0.mk U.out.size
      have M3_0 := Aside0.mk (ne_of_blk A.out)
      have M3_1 := Aside0.mk (ne_of_blk B.out)
      refine hK.out _ _ ⟨U_3.out, A_3.out, B_3.out⟩ (fun hHeld => ?_)
      clear hK K
      refine norm_ (a' := ?_) ?_ ?_
      rotate_left
      · show Act.put _ (some 5) _ = _
        simp only [Act.put, OpenRow.s1, OpenRow.s2, OpenRow.s3, i64_w, i32_w]
        rfl
      refine one_ (i := 1) (N := some 15) #[true, true, false, true, false] rfl rfl (by kernel_rfl) (by decide) (fun K hK => ?_)
      refine goes_ Try.func95 (by kernel_rfl) rfl #[.int .u64 38] (by rfl) rfl rfl (by simp only [List.map_toArray, List.map_cons, List.map_nil] <;> rfl) ?_
      with_reducible refine (HS38.out _).mono ?_
      rintro e w3 ⟨rfl, hb⟩
      refine ⟨_, rfl, ?_⟩
      have U_3_1 := Aside0.mk (U_3.out.step hb)
      have A_3_1 := Aside0.mk (blk_below A_3.out hb)
      have B_3_1 := Aside0.mk (blk_below B_3.out hb)
      have G3_3_1 := Aside0.mk (blk_below G3_3.out hb)
      clear hb
      refine hK.out _ _ ⟨U_3_1.out, A_3_1.out, B_3_1.out⟩ (fun hHeld => ?_)
      clear hK K
      refine norm_ (a' := ?_) ?_ ?_
      rotate_left
      · show Act.put _ (some 15) _ = _
        simp only [Act.put, OpenRow.s1, OpenRow.s2, OpenRow.s3, i64_w, i32_w]
        rfl
      refine one_ (i := 2) (N := some 16) #[true, true, true, true, false] rfl rfl (by kernel_rfl) (by decide) (fun K hK => ?_)
      refine goes_ Try.func88 (by kernel_rfl) rfl #[.agg (arr .u64 (num H)), .agg (arr .u64 (num 38))] (by rfl) rfl rfl (by simp only [List.map_toArray, List.map_cons, List.map_nil] <;> rfl) ?_
      with_reducible refine (HT.out _).mono ?_
      rintro e w3 ⟨rfl, hb⟩
      refine ⟨_, rfl, ?_⟩
      have U_3_1_2 := Aside0.mk (U_3_1.out.step hb)
      have A_3_1_2 := Aside0.mk (blk_below A_3_1.out hb)
      have B_3_1_2 := Aside0.mk (blk_below B_3_1.out hb)
      have G3_3_1_2 := Aside0.mk (blk_below G3_3_1.out hb)
      clear hb
      refine hK.out _ _ ⟨U_3_1_2.out, A_3_1_2.out, B_3_1_2.out⟩ (fun hHeld => ?_)
      clear hK K
      refine norm_ (a' := ?_) ?_ ?_
      rotate_left
      · show Act.put _ (some 16) _ = _
        simp only [Act.put, OpenRow.s1, OpenRow.s2, OpenRow.s3, i64_w, i32_w]
        rfl
      exact norm_ (by simp only [putAll, Act.put, List.setIfInBounds_toArray, List.set_cons_zero, List.set_cons_succ] <;> rfl) (hCont _ _ ⟨U_3_1_2.out, A_3_1_2.out, B_3_1_2.out, G3_3_1_2.out, E3.out, M3_0.out, M3_1.out⟩)
  rintro g3_ w9 ⟨hS0, hS1, hS2, hG3, hE3, hM3_0, hM3_1⟩
  have T9 := Aside0.mk hS0
  have Z9_1 := Aside0.mk hS1
  have Z9_2 := Aside0.mk hS2
  have GG3 := Aside0.mk hG3
  have EE3 := Aside0.mk hE3
  have MM3_0 := Aside0.mk hM3_0
  have MM3_1 := Aside0.mk hM3_1
  have hHeld := (And.intro hS0 (And.intro hS1 hS2))
  clear hG3 hE3 hM3_0 hM3_1
  refine norm_ (a' := ?_) ?_ ?_
  rotate_left
  · simp only [putAll, Act.put, List.setIfInBounds_toArray, List.set_cons_zero, List.set_cons_succ]
    rfl
  refine one_ (i := 4) (N := none) #[true, true, true, true, true] rfl rfl (by kernel_rfl) (by decide) (fun K hK => ?_)
  refine st_step (by rfl) rfl 74 (.tmp 5) (.tmp 16) rfl g3_ rfl rfl GG3.out (m := 8) (by kernel_rfl) (wid_length _) (by rw [wid_length]; rfl) ?_
  intro w6 h1 h2 h3 h4
  have D := Aside0.mk h1
  have V := Aside0.mk (St.other T9.out h2 h3 EE3.out)
  have A2 := Aside0.mk ((h2 _ MM3_0.out).trans Z9_1.out)
  have B2 := Aside0.mk ((h2 _ MM3_1.out).trans Z9_2.out)
  clear h1 h2 h3 h4
  refine hK.out _ _ ⟨V.out, A2.out, B2.out⟩ (fun hHeld => ?_)
  clear hK K
  refine done_ (by kernel_rfl) ?_

  have MM := Aside0.mk MM3_0.out
  have V0 := Aside0.mk V.out.drew
  have A0 := Aside0.mk (blk_drew A2.out)
  have D0 := Aside0.mk (blk_drew D.out)
  clear T9 Z9_1 Z9_2 GG3 EE3 MM3_0 MM3_1 V A2 B2 D U A B
  go_wp2
  refine start_ (n := 10) (S := fun w' => St w [⟨74, .u64, wid W⟩, ⟨44, .u64, z4⟩] w' ∧ w'.heap[g6_]? = some (.cells (arr .u64 (num (W))) 36 (0, 0)) ∧ w'.heap[g3_]? = some (.cells (arr .u64 (wid X)) 74 (0, 0))) (ds := [8]) #[false, false, false, false, false, false, false, false, false, false] (by kernel_rfl) rfl rfl ⟨V0.out, A0.out, D0.out⟩ (fun hHeld => ?_)
  refine pure_ (i := 1) (N := some 19) (v := ?_) (a' := ?_) #[false, true, false, false, false, false, false, false, false, false] rfl rfl (by kernel_rfl) (fun _ _ _ h => h) (Or.inl ⟨by rfl, ?_⟩) ?_ ?_
  rotate_left
  · intro w'; go_simp; with_reducible rfl
  rotate_left
  · simp only [Act.put, OpenRow.s1, OpenRow.s2, OpenRow.s3, i64_w, i32_w]; rfl
  refine pure_ (i := 2) (N := some 20) (v := ?_) (a' := ?_) #[false, true, true, false, false, false, false, false, false, false] rfl rfl (by kernel_rfl) (fun _ _ _ h => h) (Or.inl ⟨by rfl, ?_⟩) ?_ ?_
  rotate_left
  · intro w'; go_simp; with_reducible rfl
  rotate_left
  · simp only [Act.put, OpenRow.s1, OpenRow.s2, OpenRow.s3, i64_w, i32_w]; rfl
  refine take_ (i := 0) (N := some 18) (v := ?_) (a' := ?_) #[true, true, true, false, false, false, false, false, false, false] rfl rfl (by kernel_rfl) (fun _ _ _ h => h) (Or.inl ⟨by rfl, ?_⟩) hHeld ?_ ?_
  rotate_left
  · rintro w' ⟨s0, s1, s2⟩
    refine (run_ld 36 (.tmp 3) (by rfl) g6_ (by rfl) s1 Try.underlying36 (m := 4) (by kernel_rfl) (num_length _)).trans ?_; with_reducible rfl
  rotate_left
  · simp only [Act.put, OpenRow.s1, OpenRow.s2, OpenRow.s3, i64_w, i32_w]; rfl
  refine take_ (i := 3) (N := some 21) (v := ?_) (a' := ?_) #[true, true, true, true, false, false, false, false, false, false] rfl rfl (by kernel_rfl) (fun _ _ _ h => h) (Or.inl ⟨by rfl, ?_⟩) hHeld ?_ ?_
  rotate_left
  · rintro w' ⟨s0, s1, s2⟩
    refine (run_ldm 36 (.tmp 20) (by rfl) g3_ 0 (by rfl) (num X) s2 (wid_low X) Try.underlying36 (m := 4) (by kernel_rfl) (num_length _)).trans ?_; with_reducible rfl
  rotate_left
  · simp only [Act.put, OpenRow.s1, OpenRow.s2, OpenRow.s3, i64_w, i32_w]; rfl
  refine one_ (i := 4) (N := some 22) #[true, true, true, true, true, false, false, false, false, false] rfl rfl (by kernel_rfl) (by decide) (fun K hK => ?_)
  refine goes_ Try.func82 (by kernel_rfl) rfl #[.agg (arr .u64 (num W)), .agg (arr .u64 (num X))] (by rfl) rfl rfl (by simp only [List.map_toArray, List.map_cons, List.map_nil] <;> rfl) ?_
  with_reducible refine (HP1.out _).mono ?_
  rintro e w3 ⟨rfl, hb⟩
  refine ⟨_, rfl, ?_⟩
  have V1 := Aside0.mk (V0.out.step hb)
  have A1 := Aside0.mk (blk_below A0.out hb)
  have D1 := Aside0.mk (blk_below D0.out hb)
  clear hb
  refine hK.out _ _ ⟨V1.out, A1.out, D1.out⟩ (fun hHeld => ?_)
  clear hK K
  refine norm_ (a' := ?_) ?_ ?_
  rotate_left
  · show Act.put _ (some 22) _ = _
    simp only [Act.put, OpenRow.s1, OpenRow.s2, OpenRow.s3, i64_w, i32_w]
    rfl
  refine pure_ (i := 5) (N := some 17) (v := ?_) (a' := ?_) #[true, true, true, true, true, true, false, false, false, false] rfl rfl (by kernel_rfl) (fun _ _ _ h => h) (Or.inl ⟨by rfl, ?_⟩) ?_ ?_
  rotate_left
  · intro w'; go_simp; with_reducible rfl
  rotate_left
  · simp only [Act.put, OpenRow.s1, OpenRow.s2, OpenRow.s3, i64_w, i32_w]; rfl
  refine pure_ (i := 6) (N := some 23) (v := ?_) (a' := ?_) #[true, true, true, true, true, true, true, false, false, false] rfl rfl (by kernel_rfl) (fun _ _ _ h => h) (Or.inl ⟨by rfl, ?_⟩) ?_ ?_
  rotate_left
  · intro w'; go_simp; with_reducible rfl
  rotate_left
  · simp only [Act.put, OpenRow.s1, OpenRow.s2, OpenRow.s3, i64_w, i32_w]; rfl
  refine pure_ (i := 7) (N := some 24) (v := ?_) (a' := ?_) #[true, true, true, true, true, true, true, true, false, false] rfl rfl (by kernel_rfl) (fun _ _ _ h => h) (Or.inl ⟨by rfl, ?_⟩) ?_ ?_
  rotate_left
  · intro w'; go_simp; with_reducible rfl
  rotate_left
  · simp only [Act.put, OpenRow.s1, OpenRow.s2, OpenRow.s3, i64_w, i32_w]; rfl
  refine last_ (i := 8) (N := none) #[true, true, true, true, true, true, true, true, true, false] rfl rfl (by kernel_rfl) (by decide) (fun K hK => ?_)
  refine st_step (by rfl) rfl 36 (.tmp 3) (.tmp 23) rfl g6_ rfl rfl A1.out (m := 4) (by kernel_rfl) (num_length _) (by rw [num_length, num_length]) ?_
  intro w6 h1 h2 h3 h4
  have A2 := Aside0.mk h1
  have V2 := Aside0.mk (St.other V1.out h2 h3 EL.out)
  have D2 := Aside0.mk ((h2 _ MM.out.symm).trans D1.out)
  clear h1 h2 h3 h4
  refine hK.out _ _ ?_
  clear hK K
  refine pure_ (i := 9) (N := some 6) (v := ?_) (a' := ?_) #[true, true, true, true, true, true, true, true, true, true] rfl rfl (by kernel_rfl) (fun _ _ _ h => h) (Or.inl ⟨by rfl, ?_⟩) ?_ ?_
  rotate_left
  · intro w'; go_simp; with_reducible rfl
  rotate_left
  · simp only [Act.put, OpenRow.s1, OpenRow.s2, OpenRow.s3, i64_w, i32_w]; rfl
  refine done_ (by kernel_rfl) ?_

  have ct := blk_get D2.out 4 (by rw [wid_length]; omega)
  rw [HWT.out] at ct
  go_wp2
  have V3 := Aside0.mk V2.out.drew
  have A3 := Aside0.mk (blk_drew A2.out)
  have D3 := Aside0.mk (blk_drew D2.out)
  refine start_ (n := 9) (S := fun w' => St w [⟨74, .u64, wid W⟩, ⟨44, .u64, z4⟩] w' ∧ w'.heap[g6_]? = some (.cells (arr .u64 (num (l1))) 36 (0, 0)) ∧ w'.heap[g3_]? = some (.cells (arr .u64 (wid X)) 74 (0, 0))) (ds := [7]) #[false, false, false, false, false, false, false, false, false] (by kernel_rfl) rfl rfl ⟨V3.out, A3.out, D3.out⟩ (fun hHeld => ?_)
  refine pure_ (i := 1) (N := some 32) (v := ?_) (a' := ?_) #[false, true, false, false, false, false, false, false, false] rfl rfl (by kernel_rfl) (fun _ _ _ h => h) (Or.inl ⟨by rfl, ?_⟩) ?_ ?_
  rotate_left
  · intro w'; go_simp; with_reducible rfl
  rotate_left
  · simp only [Act.put, OpenRow.s1, OpenRow.s2, OpenRow.s3, i64_w, i32_w]; rfl
  refine take_ (i := 0) (N := some 31) (v := ?_) (a' := ?_) #[true, true, false, false, false, false, false, false, false] rfl rfl (by kernel_rfl) (fun _ _ _ h => h) (Or.inl ⟨by rfl, ?_⟩) hHeld ?_ ?_
  rotate_left
  · rintro w' ⟨s0, s1, s2⟩
    refine (run_ld 36 (.tmp 3) (by rfl) g6_ (by rfl) s1 Try.underlying36 (m := 4) (by kernel_rfl) (num_length _)).trans ?_; with_reducible rfl
  rotate_left
  · simp only [Act.put, OpenRow.s1, OpenRow.s2, OpenRow.s3, i64_w, i32_w]; rfl
  refine one_ (i := 2) (N := some 33) #[true, true, true, false, false, false, false, false, false] rfl rfl (by kernel_rfl) (by decide) (fun K hK => ?_)
  refine goes_ Try.func95 (by kernel_rfl) rfl #[.int .u64 (m : Int)] (by rfl) rfl rfl (by simp only [List.map_toArray, List.map_cons, List.map_nil] <;> rfl) ?_
  with_reducible refine (HS1.out _).mono ?_
  rintro e w3 ⟨rfl, hb⟩
  refine ⟨_, rfl, ?_⟩
  have V4 := Aside0.mk (V3.out.step hb)
  have A4 := Aside0.mk (blk_below A3.out hb)
  have D4 := Aside0.mk (blk_below D3.out hb)
  clear hb
  refine hK.out _ _ ⟨V4.out, A4.out, D4.out⟩ (fun hHeld => ?_)
  clear hK K
  refine norm_ (a' := ?_) ?_ ?_
  rotate_left
  · show Act.put _ (some 33) _ = _
    simp only [Act.put, OpenRow.s1, OpenRow.s2, OpenRow.s3, i64_w, i32_w]
    rfl
  refine one_ (i := 3) (N := some 34) #[true, true, true, true, false, false, false, false, false] rfl rfl (by kernel_rfl) (by decide) (fun K hK => ?_)
  refine goes_ Try.func82 (by kernel_rfl) rfl #[.agg (arr .u64 (num l1)), .agg (arr .u64 (num m))] (by rfl) rfl rfl (by simp only [List.map_toArray, List.map_cons, List.map_nil] <;> rfl) ?_
  with_reducible refine (HP2.out _).mono ?_
  rintro e w3 ⟨rfl, hb⟩
  refine ⟨_, rfl, ?_⟩
  have V5 := Aside0.mk (V4.out.step hb)
  have A5 := Aside0.mk (blk_below A4.out hb)
  have D5 := Aside0.mk (blk_below D4.out hb)
  clear hb
  refine hK.out _ _ ⟨V5.out, A5.out, D5.out⟩ (fun hHeld => ?_)
  clear hK K
  refine norm_ (a' := ?_) ?_ ?_
  rotate_left
  · show Act.put _ (some 34) _ = _
    simp only [Act.put, OpenRow.s1, OpenRow.s2, OpenRow.s3, i64_w, i32_w]
    rfl
  refine pure_ (i := 4) (N := some 30) (v := ?_) (a' := ?_) #[true, true, true, true, true, false, false, false, false] rfl rfl (by kernel_rfl) (fun _ _ _ h => h) (Or.inl ⟨by rfl, ?_⟩) ?_ ?_
  rotate_left
  · intro w'; go_simp; with_reducible rfl
  rotate_left
  · simp only [Act.put, OpenRow.s1, OpenRow.s2, OpenRow.s3, i64_w, i32_w]; rfl
  refine pure_ (i := 5) (N := some 35) (v := ?_) (a' := ?_) #[true, true, true, true, true, true, false, false, false] rfl rfl (by kernel_rfl) (fun _ _ _ h => h) (Or.inl ⟨by rfl, ?_⟩) ?_ ?_
  rotate_left
  · intro w'; go_simp; with_reducible rfl
  rotate_left
  · simp only [Act.put, OpenRow.s1, OpenRow.s2, OpenRow.s3, i64_w, i32_w]; rfl
  refine pure_ (i := 6) (N := some 36) (v := ?_) (a' := ?_) #[true, true, true, true, true, true, true, false, false] rfl rfl (by kernel_rfl) (fun _ _ _ h => h) (Or.inl ⟨by rfl, ?_⟩) ?_ ?_
  rotate_left
  · intro w'; go_simp; with_reducible rfl
  rotate_left
  · simp only [Act.put, OpenRow.s1, OpenRow.s2, OpenRow.s3, i64_w, i32_w]; rfl
  refine last_ (i := 7) (N := none) #[true, true, true, true, true, true, true, true, false] rfl rfl (by kernel_rfl) (by decide) (fun K hK => ?_)
  refine st_step (by rfl) rfl 36 (.tmp 3) (.tmp 35) rfl g6_ rfl rfl A5.out (m := 4) (by kernel_rfl) (num_length _) (by rw [num_length, num_length]) ?_
  intro w6 h1 h2 h3 h4
  have A6 := Aside0.mk h1
  have V6 := Aside0.mk (St.other V5.out h2 h3 EL.out)
  have D6 := Aside0.mk ((h2 _ MM.out.symm).trans D5.out)
  clear h1 h2 h3 h4
  refine hK.out _ _ ?_
  clear hK K
  refine pure_ (i := 8) (N := some 6) (v := ?_) (a' := ?_) #[true, true, true, true, true, true, true, true, true] rfl rfl (by kernel_rfl) (fun _ _ _ h => h) (Or.inl ⟨by rfl, ?_⟩) ?_ ?_
  rotate_left
  · intro w'; go_simp; with_reducible rfl
  rotate_left
  · simp only [Act.put, OpenRow.s1, OpenRow.s2, OpenRow.s3, i64_w, i32_w]; rfl
  refine done_ (by kernel_rfl) ?_

  go_wp2
  have V7 := Aside0.mk V6.out.drew
  have A7 := Aside0.mk (blk_drew A6.out)
  have D7 := Aside0.mk (blk_drew D6.out)
  refine start_ (n := 9) (S := fun w' => St w [⟨74, .u64, wid W⟩, ⟨44, .u64, z4⟩] w' ∧ w'.heap[g6_]? = some (.cells (arr .u64 (num (l2))) 36 (0, 0)) ∧ w'.heap[g3_]? = some (.cells (arr .u64 (wid X)) 74 (0, 0))) (ds := [8]) #[false, false, false, false, false, false, false, false, false] (by kernel_rfl) rfl rfl ⟨V7.out, A7.out, D7.out⟩ (fun hHeld => ?_)
  refine pure_ (i := 1) (N := some 39) (v := ?_) (a' := ?_) #[false, true, false, false, false, false, false, false, false] rfl rfl (by kernel_rfl) (fun _ _ _ h => h) (Or.inl ⟨by rfl, ?_⟩) ?_ ?_
  rotate_left
  · intro w'; go_simp; with_reducible rfl
  rotate_left
  · simp only [Act.put, OpenRow.s1, OpenRow.s2, OpenRow.s3, i64_w, i32_w]; rfl
  refine pure_ (i := 2) (N := some 40) (v := ?_) (a' := ?_) #[false, true, true, false, false, false, false, false, false] rfl rfl (by kernel_rfl) (fun _ _ _ h => h) (Or.inl ⟨by rfl, ?_⟩) ?_ ?_
  rotate_left
  · intro w'; go_simp; with_reducible rfl
  rotate_left
  · simp only [Act.put, OpenRow.s1, OpenRow.s2, OpenRow.s3, i64_w, i32_w]; rfl
  refine take_ (i := 0) (N := some 38) (v := ?_) (a' := ?_) #[true, true, true, false, false, false, false, false, false] rfl rfl (by kernel_rfl) (fun _ _ _ h => h) (Or.inl ⟨by rfl, ?_⟩) hHeld ?_ ?_
  rotate_left
  · rintro w' ⟨s0, s1, s2⟩
    refine (run_ld 36 (.tmp 3) (by rfl) g6_ (by rfl) s1 Try.underlying36 (m := 4) (by kernel_rfl) (num_length _)).trans ?_; with_reducible rfl
  rotate_left
  · simp only [Act.put, OpenRow.s1, OpenRow.s2, OpenRow.s3, i64_w, i32_w]; rfl
  refine one_ (i := 3) (N := some 41) #[true, true, true, true, false, false, false, false, false] rfl rfl (by kernel_rfl) (by decide) (fun K hK => ?_)
  refine goes_ Try.func95 (by kernel_rfl) rfl #[.int .u64 (m2 : Int)] (by rfl) rfl rfl (by simp only [List.map_toArray, List.map_cons, List.map_nil] <;> rfl) ?_
  with_reducible refine (HS2.out _).mono ?_
  rintro e w3 ⟨rfl, hb⟩
  refine ⟨_, rfl, ?_⟩
  have V8 := Aside0.mk (V7.out.step hb)
  have A8 := Aside0.mk (blk_below A7.out hb)
  have D8 := Aside0.mk (blk_below D7.out hb)
  clear hb
  refine hK.out _ _ ⟨V8.out, A8.out, D8.out⟩ (fun hHeld => ?_)
  clear hK K
  refine norm_ (a' := ?_) ?_ ?_
  rotate_left
  · show Act.put _ (some 41) _ = _
    simp only [Act.put, OpenRow.s1, OpenRow.s2, OpenRow.s3, i64_w, i32_w]
    rfl
  refine one_ (i := 4) (N := some 42) #[true, true, true, true, true, false, false, false, false] rfl rfl (by kernel_rfl) (by decide) (fun K hK => ?_)
  refine goes_ Try.func82 (by kernel_rfl) rfl #[.agg (arr .u64 (num l2)), .agg (arr .u64 (num m2))] (by rfl) rfl rfl (by simp only [List.map_toArray, List.map_cons, List.map_nil] <;> rfl) ?_
  with_reducible refine (HP3.out _).mono ?_
  rintro e w3 ⟨rfl, hb⟩
  refine ⟨_, rfl, ?_⟩
  have V9 := Aside0.mk (V8.out.step hb)
  have A9 := Aside0.mk (blk_below A8.out hb)
  have D9 := Aside0.mk (blk_below D8.out hb)
  clear hb
  refine hK.out _ _ ⟨V9.out, A9.out, D9.out⟩ (fun hHeld => ?_)
  clear hK K
  refine norm_ (a' := ?_) ?_ ?_
  rotate_left
  · show Act.put _ (some 42) _ = _
    simp only [Act.put, OpenRow.s1, OpenRow.s2, OpenRow.s3, i64_w, i32_w]
    rfl
  refine pure_ (i := 5) (N := some 37) (v := ?_) (a' := ?_) #[true, true, true, true, true, true, false, false, false] rfl rfl (by kernel_rfl) (fun _ _ _ h => h) (Or.inl ⟨by rfl, ?_⟩) ?_ ?_
  rotate_left
  · intro w'; go_simp; with_reducible rfl
  rotate_left
  · simp only [Act.put, OpenRow.s1, OpenRow.s2, OpenRow.s3, i64_w, i32_w]; rfl
  refine pure_ (i := 6) (N := some 43) (v := ?_) (a' := ?_) #[true, true, true, true, true, true, true, false, false] rfl rfl (by kernel_rfl) (fun _ _ _ h => h) (Or.inl ⟨by rfl, ?_⟩) ?_ ?_
  rotate_left
  · intro w'; go_simp; with_reducible rfl
  rotate_left
  · simp only [Act.put, OpenRow.s1, OpenRow.s2, OpenRow.s3, i64_w, i32_w]; rfl
  refine pure_ (i := 7) (N := some 44) (v := ?_) (a' := ?_) #[true, true, true, true, true, true, true, true, false] rfl rfl (by kernel_rfl) (fun _ _ _ h => h) (Or.inl ⟨by rfl, ?_⟩) ?_ ?_
  rotate_left
  · intro w'; go_simp; with_reducible rfl
  rotate_left
  · simp only [Act.put, OpenRow.s1, OpenRow.s2, OpenRow.s3, i64_w, i32_w]; rfl
  refine last_ (i := 8) (N := none) #[true, true, true, true, true, true, true, true, true] rfl rfl (by kernel_rfl) (by decide) (fun K hK => ?_)
  refine st_step (by rfl) rfl 36 (.tmp 3) (.tmp 43) rfl g6_ rfl rfl A9.out (m := 4) (by kernel_rfl) (num_length _) (by rw [num_length, num_length]) ?_
  intro w6 h1 h2 h3 h4
  have A10 := Aside0.mk h1
  have V10 := Aside0.mk (St.other V9.out h2 h3 EL.out)
  have D10 := Aside0.mk ((h2 _ MM.out.symm).trans D9.out)
  clear h1 h2 h3 h4
  refine hK.out _ _ ?_
  clear hK K
  refine done_ (by kernel_rfl) ?_

  go_wp2_with (first
    | ((with_reducible refine gate_dst (N := 45) rfl ?_); refine ld_arr rfl 36 (.tmp 3) rfl g6_ rfl A10.out Try.underlying36 (m := 4) (by kernel_rfl) (num_length _) ?_)
    | ((with_reducible refine (HQ.out _).mono ?_); rintro e w7 ⟨rfl, hb⟩; have V11 := Aside0.mk (V10.out.step hb); clear hb)
    | (refine st_arr rfl 44 (.tmp 2) (.tmp 46) rfl (w.heap.size + 1) (xs := num r) rfl rfl (V11.out.blk 1 rfl) (m := 4) (by kernel_rfl) (num_length _) (by rw [num_length]; rfl) ?_; intro w' h1 h2 h4 h3; have H1 := Aside0.mk h1; have V12 := Aside0.mk (V11.out.row 1 rfl h1 h2 h3); clear h1 h2 h3 h4))
  exact bodyPost_ret (results_cell_row Try.results92 _ _ (w.heap.size + 1) 44 _ (0, 0) _ rfl H1.out Try.underlying44 rfl (by rw [arr_size, num_length]; kernel_rfl)) rfl ⟨rfl, V12.out.below⟩


/-! ### impl_element_times: function 65 -/
set_option maxHeartbeats 1000000 in
set_option maxRecDepth 100000 in
theorem impl_element_times.calls (x y : Nat) (w : World) (hx : x < BB) (hy : y < BB) :
    Calls Try.prog 65 #[.agg (arr .u64 (num x)), .agg (arr .u64 (num y))] w fun e w' => e = .returned (.agg (arr .u64 (num (x * y % PP)))) ∧ Below w.heap.size w w' := by
  have HT := Aside0.mk (fun W => impl_number_times.calls x y W hx hy)
  have HR := Aside0.mk (fun W => impl_wide_reduced.calls (x * y) W (Nat.mul_lt_mul'' hx hy))
  clear hx hy
  generalize x * y % PP = r at *
  generalize x * y = z at *
  have S := Aside0.mk ((((St.start w).push rfl 44 .u64 (num x)).push (World.size_alloc ..) 44 .u64 (num y)).push (by rw [World.size_alloc, World.size_alloc]; rfl) 44 .u64 z4)
  go_enter Try.func65, Try.ntmps65
  go_wp2_with (first
    | ((with_reducible refine gate_dst (N := 5) rfl ?_); refine ld_arr rfl 44 (.tmp 2) rfl w.heap.size rfl (S.out.blk 0 rfl) Try.underlying44 (m := 4) (by kernel_rfl) (num_length _) ?_)
    | ((with_reducible refine gate_dst (N := 6) rfl ?_); refine ld_arr rfl 44 (.tmp 3) rfl (w.heap.size + 1) rfl (S.out.blk 1 rfl) Try.underlying44 (m := 4) (by kernel_rfl) (num_length _) ?_)
    | ((with_reducible refine (HT.out _).mono ?_); rintro e w1 ⟨rfl, hb⟩; have S1 := Aside0.mk (S.out.step hb); clear hb)
    | ((with_reducible refine (HR.out _).mono ?_); rintro e w2 ⟨rfl, hb⟩; have S2 := Aside0.mk (S1.out.step hb); clear hb)
    | (refine st_arr rfl 44 (.tmp 4) (.tmp 8) rfl (w.heap.size + 2) (xs := num r) rfl rfl (S2.out.blk 2 rfl) (m := 4) (by kernel_rfl) (num_length _) (by rw [num_length]; rfl) ?_; intro w' h1 h2 h4 h3; have H1 := Aside0.mk h1; have S3 := Aside0.mk (S2.out.row 2 rfl h1 h2 h3); clear h1 h2 h3 h4))
  exact bodyPost_ret (results_cell_row Try.results65 _ _ (w.heap.size + 2) 44 _ (0, 0) _ rfl H1.out Try.underlying44 rfl (by rw [arr_size, num_length]; kernel_rfl)) rfl ⟨rfl, S3.out.below⟩


/-! ### impl_pointAt: function 90 -/
def ptL (x y z t : Nat) : List Int := num x ++ (num y ++ (num z ++ num t))
theorem ptL_length (x y z t : Nat) : (ptL x y z t).length = 16 := by simp [ptL, num_length]
theorem build_pt (xs ys zs ts : List Int) (hx : xs.length = 4) (hy : ys.length = 4) (hz : zs.length = 4) (ht : ts.length = 4) (W : World) :
    (Instr.build 52 #[(0, .agg (arr .u64 xs)), (1, .agg (arr .u64 ys)), (2, .agg (arr .u64 zs)), (3, .agg (arr .u64 ts))]).run Try.prog W = .ok (.agg (arr .u64 (xs ++ (ys ++ (zs ++ ts))))) W := by
  match xs, ys, zs, ts, hx, hy, hz, ht with
  | [a0, a1, a2, a3], [b0, b1, b2, b3], [c0, c1, c2, c3], [d0, d1, d2, d3], _, _, _, _ =>
    simp only [arr, List.map_cons, List.map_nil, List.cons_append, List.nil_append]
    go_simp
set_option maxHeartbeats 1000000 in
set_option maxRecDepth 100000 in
theorem impl_pointAt.calls (x y : Nat) (w : World) (hx : x < BB) (hy : y < BB) :
    Calls Try.prog 90 #[.agg (arr .u64 (num x)), .agg (arr .u64 (num y))] w fun e w' => e = .returned (.agg (arr .u64 (ptL x y 1 (x * y % PP)))) ∧ Below w.heap.size w w' := by
  have HT := Aside0.mk (fun W => impl_element_times.calls x y W hx hy)
  have hbd := fun W => build_pt (num x) (num y) (num 1) (num (x * y % PP)) (num_length _) (num_length _) (num_length _) (num_length _) W
  have n1 : num 1 = [1, 0, 0, 0] := by decide
  have HPL := Aside0.mk (ptL_length x y 1 (x * y % PP))
  rw [n1] at hbd
  unfold ptL at HPL ⊢
  rw [n1] at HPL ⊢
  obtain ⟨ps, hps⟩ : ∃ ps, ps = num x ++ (num y ++ ([1, 0, 0, 0] ++ num (x * y % PP))) := ⟨_, rfl⟩
  rw [← hps] at hbd HPL ⊢
  have hbd2 : ∀ W, (Instr.build 52 #[(0, .agg (arr .u64 (num x))), (1, .agg (arr .u64 (num y))), (2, .agg #[.int .u64 1, .int .u64 0, .int .u64 0, .int .u64 0]), (3, .agg (arr .u64 (num (x * y % PP))))]).run Try.prog W = .ok (.agg (arr .u64 ps)) W := hbd
  clear hx hy hps hbd n1
  generalize x * y % PP = r at *
  have S := Aside0.mk ((((St.start w).push rfl 44 .u64 (num x)).push (World.size_alloc ..) 44 .u64 (num y)).push (by rw [World.size_alloc, World.size_alloc]; rfl) 52 .u64 z16)
  go_enter Try.func90, Try.ntmps90
  go_wp2
  refine abs_world (bs := [⟨44, .u64, num x⟩, ⟨44, .u64, num y⟩, ⟨52, .u64, z16⟩]) S.out ?_
  clear S
  intro W0 hS
  have T := Aside0.mk hS.drew
  clear hS
  refine start_ (n := 8) (S := fun w' => St w [⟨44, .u64, num x⟩, ⟨44, .u64, num y⟩, ⟨52, .u64, z16⟩] w') (ds := [7]) #[false, false, false, false, false, false, false, false] (by kernel_rfl) rfl rfl (T.out) (fun hHeld => ?_)
  refine pure_ (i := 2) (N := some 7) (v := ?_) (a' := ?_) #[false, false, true, false, false, false, false, false] rfl rfl (by kernel_rfl) (fun _ _ _ h => h) (Or.inl ⟨by rfl, ?_⟩) ?_ ?_
  rotate_left
  · intro w'; go_simp; with_reducible rfl
  rotate_left
  · simp only [Act.put, OpenRow.s1, OpenRow.s2, OpenRow.s3, i64_w, i32_w]; rfl
  refine take_ (i := 0) (N := some 5) (v := ?_) (a' := ?_) #[true, false, true, false, false, false, false, false] rfl rfl (by kernel_rfl) (fun _ _ _ h => h) (Or.inl ⟨by rfl, ?_⟩) hHeld ?_ ?_
  rotate_left
  · intro w' s0
    refine (run_ld 44 (.tmp 2) (by rfl) w.heap.size (by rfl) (s0.blk 0 rfl) Try.underlying44 (m := 4) (by kernel_rfl) (num_length _)).trans ?_; with_reducible rfl
  rotate_left
  · simp only [Act.put, OpenRow.s1, OpenRow.s2, OpenRow.s3, i64_w, i32_w]; rfl
  refine take_ (i := 1) (N := some 6) (v := ?_) (a' := ?_) #[true, true, true, false, false, false, false, false] rfl rfl (by kernel_rfl) (fun _ _ _ h => h) (Or.inl ⟨by rfl, ?_⟩) hHeld ?_ ?_
  rotate_left
  · intro w' s0
    refine (run_ld 44 (.tmp 3) (by rfl) (w.heap.size + 1) (by rfl) (s0.blk 1 rfl) Try.underlying44 (m := 4) (by kernel_rfl) (num_length _)).trans ?_; with_reducible rfl
  rotate_left
  · simp only [Act.put, OpenRow.s1, OpenRow.s2, OpenRow.s3, i64_w, i32_w]; rfl
  refine take_ (i := 3) (N := some 8) (v := ?_) (a' := ?_) #[true, true, true, true, false, false, false, false] rfl rfl (by kernel_rfl) (fun _ _ _ h => h) (Or.inl ⟨by rfl, ?_⟩) hHeld ?_ ?_
  rotate_left
  · intro w' s0
    refine (run_ld 44 (.tmp 2) (by rfl) w.heap.size (by rfl) (s0.blk 0 rfl) Try.underlying44 (m := 4) (by kernel_rfl) (num_length _)).trans ?_; with_reducible rfl
  rotate_left
  · simp only [Act.put, OpenRow.s1, OpenRow.s2, OpenRow.s3, i64_w, i32_w]; rfl
  refine take_ (i := 4) (N := some 9) (v := ?_) (a' := ?_) #[true, true, true, true, true, false, false, false] rfl rfl (by kernel_rfl) (fun _ _ _ h => h) (Or.inl ⟨by rfl, ?_⟩) hHeld ?_ ?_
  rotate_left
  · intro w' s0
    refine (run_ld 44 (.tmp 3) (by rfl) (w.heap.size + 1) (by rfl) (s0.blk 1 rfl) Try.underlying44 (m := 4) (by kernel_rfl) (num_length _)).trans ?_; with_reducible rfl
  rotate_left
  · simp only [Act.put, OpenRow.s1, OpenRow.s2, OpenRow.s3, i64_w, i32_w]; rfl
  refine one_ (i := 5) (N := some 10) #[true, true, true, true, true, true, false, false] rfl rfl (by kernel_rfl) (by decide) (fun K hK => ?_)
  refine goes_ Try.func65 (by kernel_rfl) rfl #[.agg (arr .u64 (num x)), .agg (arr .u64 (num y))] (by rfl) rfl rfl (by simp only [List.map_toArray, List.map_cons, List.map_nil] <;> rfl) ?_
  with_reducible refine (HT.out _).mono ?_
  rintro e w3 ⟨rfl, hb⟩
  refine ⟨_, rfl, ?_⟩
  have T1 := Aside0.mk (T.out.step hb)
  clear hb
  refine hK.out _ _ (T1.out) (fun hHeld => ?_)
  clear hK K
  refine norm_ (a' := ?_) ?_ ?_
  rotate_left
  · show Act.put _ (some 10) _ = _
    simp only [Act.put, OpenRow.s1, OpenRow.s2, OpenRow.s3, i64_w, i32_w]
    rfl
  refine pure_ (i := 6) (N := some 11) (v := ?_) (a' := ?_) #[true, true, true, true, true, true, true, false] rfl rfl (by kernel_rfl) (fun _ _ _ h => h) (Or.inl ⟨by rfl, ?_⟩) ?_ ?_
  rotate_left
  · intro w'
    refine (run_bd rfl _ (by simp only [List.map_toArray, List.map_cons, List.map_nil] <;> rfl) (hbd2 _)).trans ?_; with_reducible rfl
  rotate_left
  · simp only [Act.put, OpenRow.s1, OpenRow.s2, OpenRow.s3, i64_w, i32_w]; rfl
  refine last_ (i := 7) (N := none) #[true, true, true, true, true, true, true, true] rfl rfl (by kernel_rfl) (by decide) (fun K hK => ?_)
  refine st_step (by rfl) rfl 52 (.tmp 4) (.tmp 11) rfl (w.heap.size + 2) (xs := ps) rfl rfl (T1.out.blk 2 rfl) (m := 16) (by kernel_rfl) HPL.out (by rw [HPL.out]; rfl) ?_
  intro w6 h1 h2 h3 h4
  have H1 := Aside0.mk h1
  have T2 := Aside0.mk (T1.out.row 2 rfl h1 h2 h3)
  clear h1 h2 h3 h4
  refine hK.out _ _ ?_
  clear hK K
  refine done_ (by kernel_rfl) ?_

  go_wp2
  exact bodyPost_ret (results_cell_row Try.results90 _ _ (w.heap.size + 2) 52 _ (0, 0) _ rfl H1.out Try.underlying52 rfl (by rw [arr_size, HPL.out]; kernel_rfl)) rfl ⟨rfl, T2.out.below⟩


/-! ### impl_base: function 62 -/
def baseX : Nat := 15112221349535400772501151409588531511454012693041857206046113283949847762202
def baseY : Nat := 46316835694926478169428394003475163141307993866256225615783033603165251855960
set_option maxHeartbeats 1000000 in
set_option maxRecDepth 100000 in
theorem impl_base.calls (w : World) :
    Calls Try.prog 62 #[] w fun e w' => e = .returned (.agg (arr .u64 (ptL baseX baseY 1 (baseX * baseY % PP)))) ∧ Below w.heap.size w w' := by
  have HP := Aside0.mk (fun W => (show Calls Try.prog 90 #[.agg #[.int .u64 14507833142362363162, .int .u64 7578651490590762930, .int .u64 13881468655802702940, .int .u64 2407515759118799870], .agg #[.int .u64 7378697629483820632, .int .u64 7378697629483820646, .int .u64 7378697629483820646, .int .u64 7378697629483820646]] W _ from by
    have h := impl_pointAt.calls baseX baseY W (by decide) (by decide)
    rw [show num baseX = [14507833142362363162, 7578651490590762930, 13881468655802702940, 2407515759118799870] from by decide, show num baseY = [7378697629483820632, 7378697629483820646, 7378697629483820646, 7378697629483820646] from by decide] at h
    exact h))
  have HPL := Aside0.mk (ptL_length baseX baseY 1 (baseX * baseY % PP))
  generalize ptL baseX baseY 1 (baseX * baseY % PP) = ps at *
  have S := Aside0.mk ((St.start w).push rfl 52 .u64 z16)
  go_enter Try.func62, Try.ntmps62
  go_wp2_with (first
    | ((refine (HP.out _).mono ?_); rintro e w1 ⟨rfl, hb⟩; have S1 := Aside0.mk (S.out.step hb); clear hb)
    | (refine st_arr rfl 52 (.tmp 0) (.tmp 3) rfl w.heap.size (xs := ps) rfl rfl (S1.out.blk 0 rfl) (m := 16) (by kernel_rfl) HPL.out (by rw [HPL.out]; rfl) ?_; intro w' h1 h2 h4 h3; have H1 := Aside0.mk h1; have S2 := Aside0.mk (S1.out.row 0 rfl h1 h2 h3); clear h1 h2 h3 h4))
  exact bodyPost_ret (results_cell_row Try.results62 _ _ w.heap.size 52 _ (0, 0) _ rfl H1.out Try.underlying52 rfl (by rw [arr_size, HPL.out]; kernel_rfl)) rfl ⟨rfl, S2.out.below⟩


/-! ### impl_number_bytes: function 45 -/
set_option maxHeartbeats 400000 in
set_option maxRecDepth 100000 in
theorem impl_number_bytes.calls (x : Nat) (w : World) :
    Calls Try.prog 45 #[.agg (arr .u64 (num x))] w fun e w' => ∃ v0_ : Value, e = .returned (v0_) ∧ Kd.R (Kd.int .u8) 5 w' w.heap.size (fun _ => True) v0_ (limbs 256 32 x) ∧ Below w.heap.size w w' := by
  obtain ⟨xs, hxs⟩ : ∃ l, l = num x := ⟨_, rfl⟩
  have HX := Aside0.mk (hxs ▸ num_length x)
  have UX := Aside0.mk (hxs ▸ num_ok x)
  rw [← hxs]
  have V : bytS xs 32 = limbs 256 32 x := by rw [hxs]; exact bytS_num x
  rw [← V]
  clear hxs V
  have HB0 := Aside0.mk (show Below w.heap.size w (w.alloc (.cells (arr .u64 xs) 36)) from below_alloc (Below.refl _ _) _)
  have BX := Aside0.mk (blk_new w (.cells (arr .u64 xs) 36))
  go_enter Try.func45, Try.ntmps45
  go_wp2_with (first | ((with_reducible refine gate_dst (N := 5) rfl ?_); refine Kd.R_make (Kd.int .u8) _ 5 rfl (N := 5) rfl 22 _ _ rfl (32 : Int) rfl rfl Try.underlying22 (.int .u8 0) 1 info5 rfl (by decide) (by omega) 0 (ok := fun _ => True) (okp := fun _ => True) rfl (fun _ hk => hk) trivial (by decide) (by decide) (Below.refl _ _) (Nat.le_refl _) ?_; intro v148 w5 ho6 hb hg_ hnew_; rw [World.size_alloc] at ho6; have HO := Aside0.mk ho6; have HB := Aside0.mk (below_step HB0.out hb); have B0 := Aside0.mk (blk_below BX.out hb); clear ho6 hb hg_ hnew_; obtain ⟨Ao, co, eo⟩ := Kd.R_slice HO.out; rw [List.length_replicate, show Int.toNat 32 = 32 from rfl] at eo; subst eo))
  go_loopg [4, 8] 32 (fun gg _ v8 wr => ∃ k : Nat, k ≤ 32 ∧ 32 - k ≤ gg ∧ v8 = .int .i64 k ∧ Aside0 (wr.heap[w.heap.size]? = some (.cells (arr .u64 xs) 36 (0, 0))) ∧ Aside0 (Kd.R (Kd.int .u8) 5 wr (w.heap.size + 1) (fun _ => True) (.slice Ao 32 co) (bytS xs k)) ∧ Aside0 (Below w.heap.size w wr))
  case atStart => exact ⟨0, by omega, by omega, rfl, B0, HO, HB⟩
  case round =>
    obtain ⟨k, hk, hg, rfl, B1, HR, HB1⟩ := hrel
    by_cases hlt : k < 32
    · have hlti : (k : Int) < 32 := by omega
      obtain ⟨go, co', eo', gb, gl, cl, HG⟩ := Kd.R_form HR.out (by rw [bytS_length]; omega)
      injection eo' with ea en ec
      subst ea
      subst ec
      clear en
      obtain ⟨hx0, hf0⟩ := Kd.R_celln 0 HR.out (k : Int) (by omega) (by omega)
      obtain ⟨i, hi⟩ : ∃ i : Nat, i = k / 8 := ⟨_, rfl⟩
      obtain ⟨q, hq⟩ : ∃ q : Nat, q = k % 8 := ⟨_, rfl⟩
      obtain ⟨n, hn⟩ : ∃ n : Nat, n = 8 * q := ⟨_, rfl⟩
      have HP := Kd.R_putg HR.out (k : Int) ((xs.getD i 0 / 2 ^ n) % 256)
      simp only [Int.toNat_natCast] at hx0 hf0 HP
      have hc1 := blk_get B1.out i (by have := HX.out; omega)
      have hi1 : (k : Int) / 8 = (i : Int) := by omega
      have hq1 : (k : Int) % 8 = (q : Int) := by omega
      have hq2 : (k : Int).tmod 8 = (q : Int) := by rw [Int.tmod_eq_emod_of_nonneg (by omega)]; omega
      have hn1 : 8 * (q : Int) = (n : Int) := by omega
      have i4 : i < 4 := by omega
      have n56 : min n 64 = n := by omega
      have h4 : (i : Int) < 4 := by omega
      have hn2 : (n : Int) ≤ 56 := by omega
      have B2 := Aside0.mk (blk_far B1.out (p := ⟨go, k, none⟩) (by show w.heap.size ≠ go; omega) (.int .u8 ((xs.getD i 0 / 2 ^ n) % 256)))
      have HB2 := Aside0.mk (below_set (j := k) (v := .int .u8 ((xs.getD i 0 / 2 ^ n) % 256)) HB1.out (show w.heap.size ≤ go by omega))
      have HP2 := Aside0.mk HP.1
      have EQ := Aside0.mk (show bytS xs (k + 1) = (bytS xs k).set k ((xs.getD i 0 / 2 ^ n) % 256) from by rw [hi, hn, hq]; rfl)
      have a0 := getD_range UX.out i (by have := HX.out; omega)
      have a1 := a0.1
      clear hi hq hn HP gb gl HG a0
      generalize xs.getD i 0 = a at *
      go_wp2
      go_roundg (32 - (k + 1))
      case measure => omega
      case rel => exact ⟨k + 1, by omega, by omega, by go_num, B2, by rw [EQ.out]; exact HP2, HB2⟩
    · obtain rfl : k = 32 := by omega
      have hneg : ¬ ((32 : Nat) : Int) < 32 := by omega
      go_wp2
      go_ret
      exact ⟨_, rfl, Kd.R_lower HR.out (by omega), HB1.out⟩


/-! ### impl_element_bytes: function 52 -/
set_option maxHeartbeats 1000000 in
set_option maxRecDepth 100000 in
theorem impl_element_bytes.calls (x : Nat) (w : World) :
    Calls Try.prog 52 #[.agg (arr .u64 (num x))] w fun e w' => ∃ v0_ : Value, e = .returned (v0_) ∧ Kd.R (Kd.int .u8) 5 w' w.heap.size (fun _ => True) v0_ (limbs 256 32 x) ∧ Below w.heap.size w w' := by
  have S := Aside0.mk ((St.start w).push rfl 44 .u64 (num x))
  have HC := Aside0.mk (impl_number_bytes.calls x (w.alloc (.cells (arr .u64 (num x)) 44)))
  go_enter Try.func52, Try.ntmps52
  go_wp2_with (first
    | ((with_reducible refine gate_dst (N := 3) rfl ?_); refine ld_arr rfl 44 (.tmp 1) rfl w.heap.size rfl (S.out.blk 0 rfl) Try.underlying44 (m := 4) (by kernel_rfl) (num_length _) ?_)
    | ((with_reducible refine (HC.out).mono ?_); rintro e w1 ⟨v, rfl, hR, hb⟩; have S1 := Aside0.mk (S.out.step hb); have HR := Aside0.mk (Kd.R_lower hR (below_size S.out.below)); clear hb hR))
  go_ret
  exact ⟨_, rfl, HR.out, S1.out.below⟩


end Go.Proofs.Ytijeackkgcnbgaa.XT
