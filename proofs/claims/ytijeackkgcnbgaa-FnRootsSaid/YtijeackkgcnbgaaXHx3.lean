-- Written by a program of this session (xp.py over the kit's printer, with functions proved by hand). Lean checks it.
import Derived.Test.YtijeackkgcnbgaaXHx0
import Derived.Test.YtijeackkgcnbgaaXHx1
import Derived.Test.YtijeackkgcnbgaaXHx2
namespace Go.Proofs.Ytijeackkgcnbgaa.XH
open Go.Proofs.Ytijeackkgcnbgaa.Limb Go.Proofs.Ytijeackkgcnbgaa.Arr Go.Proofs.Ytijeackkgcnbgaa.FldA Go.Proofs.Ytijeackkgcnbgaa.FldB Go.Proofs.Ytijeackkgcnbgaa.FldC Go.Proofs.Ytijeackkgcnbgaa.FldS Go.Proofs.Ytijeackkgcnbgaa.FldP Go.Proofs.Ytijeackkgcnbgaa.FldW Go.Proofs.Ytijeackkgcnbgaa.FldM Go.Proofs.Ytijeackkgcnbgaa.FldT Go.Proofs.Ytijeackkgcnbgaa.FldRoot Go.Proofs.Ytijeackkgcnbgaa.FldRoot2 Go.Proofs.Ytijeackkgcnbgaa.St Go.Proofs.Ytijeackkgcnbgaa.StOps Go.Proofs.Ytijeackkgcnbgaa.StMid Go.Proofs.Ytijeackkgcnbgaa.StEq Go.Proofs.Ytijeackkgcnbgaa.StIdx Go.Proofs.Ytijeackkgcnbgaa.StSrc
open Go.RowKit Go.Proofs.YtijeackkgcnbgaaW.PrintWords Go.Proofs.YtijeackkgcnbgaaW.PrintLast Go.Proofs.YtijeackkgcnbgaaW.PrintMore
attribute [local go_sem] max2_int min2_int max_two min_two max_three min_three max_four min_four   -- for this text's walks alone
set_option linter.unusedVariables false
set_option linter.unusedSimpArgs false

/-! ### impl_wide_reduced: function 92 -/
set_option maxHeartbeats 1000000 in
set_option maxRecDepth 100000 in
theorem impl_wide_reduced.calls (W : Nat) (w : World) (hW : W < BB * BB) :
    Calls Try.prog 92 #[.agg (arr .u64 (wid W))] w fun e w' => e = .returned (.agg (arr .u64 (num (W % PP)))) ∧ Below w.heap.size w w' := by
  obtain ⟨H, hH⟩ : ∃ H, H = W / BB := ⟨_, rfl⟩
  obtain ⟨X, hX⟩ : ∃ X, X = H * 38 := ⟨_, rfl⟩
  obtain ⟨q, hq⟩ : ∃ q, q = X / BB := ⟨_, rfl⟩
  obtain ⟨c1, hc1⟩ : ∃ c1, c1 = (W % BB + X % BB) / BB := ⟨_, rfl⟩
  obtain ⟨l1, hl1⟩ : ∃ l1, l1 = (W % BB + X % BB) % BB := ⟨_, rfl⟩
  obtain ⟨m, hm⟩ : ∃ m, m = (q + c1) * 38 := ⟨_, rfl⟩
  obtain ⟨c2, hc2⟩ : ∃ c2, c2 = (l1 + m) / BB := ⟨_, rfl⟩
  obtain ⟨l2, hl2⟩ : ∃ l2, l2 = (l1 + m) % BB := ⟨_, rfl⟩
  obtain ⟨m2, hm2⟩ : ∃ m2, m2 = 38 * c2 := ⟨_, rfl⟩
  have hBp : 0 < BB := by decide
  have rr := red_ranges W hW
  rw [← hH, ← hX, ← hq, ← hc1] at rr
  obtain ⟨rH, rq, rc1⟩ := rr
  have rm : m ≤ 2000 := by rw [hm]; omega
  have rl1 : l1 < BB := by rw [hl1]; exact Nat.mod_lt _ hBp
  have rl2 : l2 < BB := by rw [hl2]; exact Nat.mod_lt _ hBp
  have rmB : m < BB := Nat.lt_of_le_of_lt rm (by decide)
  have rc2 : c2 < 2 := by
    rw [hc2, Nat.div_lt_iff_lt_mul hBp]; omega
  have HSUM := red_sum (W % BB) H q c1 c2 l1 l2 (X % BB) m (by rw [← hX, hq]; have := Nat.div_add_mod X BB; omega) (by rw [hl1, hc1]; have := Nat.div_add_mod (W % BB + X % BB) BB; omega) hm (by rw [hl2, hc2]; have := Nat.div_add_mod (l1 + m) BB; omega) rl1 rl2 rm
  rw [← hm2, hH, Nat.mod_add_div] at HSUM
  obtain ⟨hs1, hs2⟩ := HSUM
  have HS38 := Aside0.mk (fun W' => (show Calls Try.prog 95 #[.int .u64 38] W' _ from impl_small.calls 38 W' (by decide)))
  have HT := Aside0.mk (fun W' => impl_number_times.calls H 38 W' rH (by decide))
  rw [← hX] at HT
  have HP1 := Aside0.mk (fun W' => impl_number_plus.calls W X W')
  rw [b4, ← hc1, ← num_mod (W + X), Nat.add_mod, ← hl1] at HP1
  have HS1 := Aside0.mk (fun W' => impl_small.calls m W' (by omega))
  have HP2 := Aside0.mk (fun W' => impl_number_plus.calls l1 m W')
  rw [b4, Nat.mod_eq_of_lt rl1, Nat.mod_eq_of_lt rmB, ← hc2, ← num_mod (l1 + m), ← hl2] at HP2
  have HS2 := Aside0.mk (fun W' => impl_small.calls m2 W' (by omega))
  obtain ⟨cv, HP3⟩ : ∃ cv : Value, Aside0 (∀ W', Calls Try.prog 82 #[.agg (arr .u64 (num l2)), .agg (arr .u64 (num m2))] W' fun e w' => e = .returned (.tuple #[.agg (arr .u64 (num (l2 + m2))), cv]) ∧ Below W'.heap.size W' w') := ⟨_, ⟨fun W' => impl_number_plus.calls l2 m2 W'⟩⟩
  have HQ := Aside0.mk (fun W' => impl_number_reduced.calls (l2 + m2) W')
  rw [Nat.mod_eq_of_lt hs1, hs2] at HQ
  have HW4 := Aside0.mk (show num (W / P64 ^ 4) = num H by rw [b4, hH])
  have hwt := wid_top X (by rw [← hq]; exact rq)
  rw [← hq] at hwt
  have HWT := Aside0.mk hwt
  have i1 : (q : Int) + (c1 : Int) = ((q + c1 : Nat) : Int) := by omega
  have i2 : ((q + c1 : Nat) : Int) * 38 = (m : Int) := by rw [hm]; omega
  have i3 : 38 * (c2 : Int) = (m2 : Int) := by rw [hm2]; omega
  have i4 : (m2 : Int) < 100 := by omega
  have i7 : IntKind.u64.wrap (m2 : Int) = (m2 : Int) := by rw [IntKind.wrap_u64]; omega
  have i5 : (m : Int) ≤ 2000 := by omega
  have i6 : ((q + c1 : Nat) : Int) < 100 := by omega
  generalize q + c1 = qc at *
  generalize W % PP = r at *
  clear hwt hs1 hs2 rc2 rmB rl2 rl1 rm rH rq rc1 hBp hm2 hl2 hc2 hm hl1 hc1 hq hX hH hW
  have S := Aside0.mk (((St.start w).push rfl 74 .u64 (wid W)).push (World.size_alloc ..) 44 .u64 z4)
  have hat := fun (a : Option Addr) (c : Nat) W => run_arrayAt (P := Try.prog) W 36 34 4 a 4 c Try.underlying36 (by decide)
  go_enter Try.func92, Try.ntmps92
  go_wp2
  refine abs_world (bs := [⟨74, .u64, wid W⟩, ⟨44, .u64, z4⟩]) S.out ?_
  clear S
  intro W0 hS
  have T := Aside0.mk hS.drew
  clear hS
  refine start_ (n := 10) (S := fun w' => St w [⟨74, .u64, wid W⟩, ⟨44, .u64, z4⟩] w') (ds := []) #[false, false, false, false, false, false, false, false, false, false] (by kernel_rfl) rfl rfl (T.out) (fun hHeld => ?_)
  refine pure_ (i := 0) (N := some 8) (v := ?_) (a' := ?_) #[true, false, false, false, false, false, false, false, false, false] rfl rfl (by kernel_rfl) (fun _ _ _ h => h) (Or.inl ⟨by rfl, ?_⟩) ?_ ?_
  rotate_left
  · intro w'; go_simp; with_reducible rfl
  rotate_left
  · simp only [Act.put, OpenRow.s1, OpenRow.s2, OpenRow.s3, i64_w, i32_w]; rfl
  refine pure_ (i := 1) (N := some 9) (v := ?_) (a' := ?_) #[true, true, false, false, false, false, false, false, false, false] rfl rfl (by kernel_rfl) (fun _ _ _ h => h) (Or.inl ⟨by rfl, ?_⟩) ?_ ?_
  rotate_left
  · intro w'; go_simp; with_reducible rfl
  rotate_left
  · simp only [Act.put, OpenRow.s1, OpenRow.s2, OpenRow.s3, i64_w, i32_w]; rfl
  refine pure_ (i := 3) (N := some 11) (v := ?_) (a' := ?_) #[true, true, false, true, false, false, false, false, false, false] rfl rfl (by kernel_rfl) (fun _ _ _ h => h) (Or.inl ⟨by rfl, ?_⟩) ?_ ?_
  rotate_left
  · intro w'; go_simp; with_reducible rfl
  rotate_left
  · simp only [Act.put, OpenRow.s1, OpenRow.s2, OpenRow.s3, i64_w, i32_w]; rfl
  refine pure_ (i := 4) (N := some 12) (v := ?_) (a' := ?_) #[true, true, false, true, true, false, false, false, false, false] rfl rfl (by kernel_rfl) (fun _ _ _ h => h) (Or.inl ⟨by rfl, ?_⟩) ?_ ?_
  rotate_left
  · intro w'; go_simp; with_reducible rfl
  rotate_left
  · simp only [Act.put, OpenRow.s1, OpenRow.s2, OpenRow.s3, i64_w, i32_w]; rfl
  refine take_ (i := 2) (N := some 10) (v := ?_) (a' := ?_) #[true, true, true, true, true, false, false, false, false, false] rfl rfl (by kernel_rfl) (fun _ _ _ h => h) (Or.inl ⟨by rfl, ?_⟩) hHeld ?_ ?_
  rotate_left
  · intro w' s0
    refine (run_ldm 36 (.tmp 9) (by rfl) w.heap.size 0 (by rfl) (num W) (s0.blk 0 rfl) (wid_low W) Try.underlying36 (m := 4) (by kernel_rfl) (num_length _)).trans ?_; with_reducible rfl
  rotate_left
  · simp only [Act.put, OpenRow.s1, OpenRow.s2, OpenRow.s3, i64_w, i32_w]; rfl
  refine take_ (i := 5) (N := some 13) (v := ?_) (a' := ?_) #[true, true, true, true, true, true, false, false, false, false] rfl rfl (by kernel_rfl) (fun _ _ _ h => h) (Or.inl ⟨by rfl, ?_⟩) hHeld ?_ ?_
  rotate_left
  · intro w' s0
    refine (run_ldm 36 (.tmp 12) (by rfl) w.heap.size 4 (by rfl) (num (W / P64 ^ 4)) (s0.blk 0 rfl) (wid_high W) Try.underlying36 (m := 4) (by kernel_rfl) (num_length _)).trans ?_; with_reducible rfl
  rotate_left
  · simp only [Act.put, OpenRow.s1, OpenRow.s2, OpenRow.s3, i64_w, i32_w]; rfl
  refine join_ (σ := Nat × Nat) 2 #[true, true, true, true, true, true, true, true, false, false] (fun s_ => [(3, .pointer (some ⟨s_.1, 0, none⟩)), (4, .pointer (some ⟨s_.2, 0, none⟩))]) (fun s_ w' => (St w [⟨74, .u64, wid W⟩, ⟨44, .u64, z4⟩] w') ∧ w'.heap[s_.1]? = some (.cells (arr .u64 z4) 36 (0, 0)) ∧ w'.heap[s_.2]? = some (.cells (arr .u64 z4) 36 (0, 0)) ∧ w.heap.size + 2 ≤ s_.1 ∧ w.heap.size + 2 ≤ s_.2 ∧ s_.1 ≠ s_.2) ?_ ?_
  rotate_left
  · intro hCont
    refine two_ (i := 6) (j := 7) (Ni := some 3) (Nj := some 4) #[true, true, true, true, true, true, true, false, false, false] #[true, true, true, true, true, true, false, true, false, false] rfl rfl rfl rfl (by kernel_rfl) (by decide) (by decide) (fun K hK => ?_) (fun K hK => ?_)
    · skip
      refine value_ (w1 := ?_) (v := ?_) (by rfl) rfl ?_ ?_
      rotate_left 2
      · go_simp
        constructor
        · rfl
        · rfl
      have T_6 := Aside0.mk (T.out.alloc (.cells (arr .u64 z4) 36))
      have G6_6 := Aside0.mk (T.out.new (.cells (arr .u64 z4) 36))
      have E6 := Aside0.mk T.out.size
      refine hK.out _ _ (T_6.out) (fun hHeld => ?_)
      clear hK K
      refine norm_ (a' := ?_) ?_ ?_
      rotate_left
      · show Act.put _ (some 3) _ = _
        simp only [Act.put, OpenRow.s1, OpenRow.s2, OpenRow.s3, i64_w, i32_w]
        rfl
      refine one_ (i := 7) (N := some 4) #[true, true, true, true, true, true, true, true, false, false] rfl rfl (by kernel_rfl) (by decide) (fun K hK => ?_)
      refine value_ (w1 := ?_) (v := ?_) (by rfl) rfl ?_ ?_
      rotate_left 2
      · go_simp
        constructor
        · rfl
        · rfl
      have T_6_7 := Aside0.mk (T_6.out.alloc (.cells (arr .u64 z4) 36))
      have G7_6_7 := Aside0.mk (T_6.out.new (.cells (arr .u64 z4) 36))
      have E7 := Aside0.mk T_6.out.size
      have N7 := Aside0.mk (ne_of_blk G6_6.out)
      have G6_6_7 := Aside0.mk (blk_alloc G6_6.out (.cells (arr .u64 z4) 36))
      (try simp only [World.size_alloc] at G7_6_7 E7 N7)
      refine hK.out _ _ (T_6_7.out) (fun hHeld => ?_)
      clear hK K
      refine norm_ (a' := ?_) ?_ ?_
      rotate_left
      · show Act.put _ (some 4) _ = _
        simp only [Act.put, OpenRow.s1, OpenRow.s2, OpenRow.s3, i64_w, i32_w]
        rfl
      exact norm_ (by simp only [putAll, Act.put, List.setIfInBounds_toArray, List.set_cons_zero, List.set_cons_succ] <;> rfl) (hCont (_, _) _ ⟨T_6_7.out, G6_6_7.out, G7_6_7.out, E6.out, E7.out, N7.out⟩)
    · skip
      refine value_ (w1 := ?_) (v := ?_) (by rfl) rfl ?_ ?_
      rotate_left 2
      · go_simp
        constructor
        · rfl
        · rfl
      have T_7 := Aside0.mk (T.out.alloc (.cells (arr .u64 z4) 36))
      have G7_7 := Aside0.mk (T.out.new (.cells (arr .u64 z4) 36))
      have E7 := Aside0.mk T.out.size
      refine hK.out _ _ (T_7.out) (fun hHeld => ?_)
      clear hK K
      refine norm_ (a' := ?_) ?_ ?_
      rotate_left
      · show Act.put _ (some 4) _ = _
        simp only [Act.put, OpenRow.s1, OpenRow.s2, OpenRow.s3, i64_w, i32_w]
        rfl
      refine one_ (i := 6) (N := some 3) #[true, true, true, true, true, true, true, true, false, false] rfl rfl (by kernel_rfl) (by decide) (fun K hK => ?_)
      refine value_ (w1 := ?_) (v := ?_) (by rfl) rfl ?_ ?_
      rotate_left 2
      · go_simp
        constructor
        · rfl
        · rfl
      have T_7_6 := Aside0.mk (T_7.out.alloc (.cells (arr .u64 z4) 36))
      have G6_7_6 := Aside0.mk (T_7.out.new (.cells (arr .u64 z4) 36))
      have E6 := Aside0.mk T_7.out.size
      have N6 := Aside0.mk (ne_of_blk G7_7.out)
      have G7_7_6 := Aside0.mk (blk_alloc G7_7.out (.cells (arr .u64 z4) 36))
      (try simp only [World.size_alloc] at G6_7_6 E6 N6)
      refine hK.out _ _ (T_7_6.out) (fun hHeld => ?_)
      clear hK K
      refine norm_ (a' := ?_) ?_ ?_
      rotate_left
      · show Act.put _ (some 3) _ = _
        simp only [Act.put, OpenRow.s1, OpenRow.s2, OpenRow.s3, i64_w, i32_w]
        rfl
      exact norm_ (by simp only [putAll, Act.put, List.setIfInBounds_toArray, List.set_cons_zero, List.set_cons_succ] <;> rfl) (hCont (_, _) _ ⟨T_7_6.out, G6_7_6.out, G7_7_6.out, E6.out, E7.out, N6.out.symm⟩)
  rintro ⟨g6_, g7_⟩ w9 ⟨hHeld, hG6, hG7, hE6, hE7, hN⟩
  have T9 := Aside0.mk hHeld
  have GG6 := Aside0.mk hG6
  have GG7 := Aside0.mk hG7
  have EE6 := Aside0.mk hE6
  have EE7 := Aside0.mk hE7
  have NN := Aside0.mk hN
  clear hG6 hG7 hE6 hE7 hN
  refine norm_ (a' := ?_) ?_ ?_
  rotate_left
  · simp only [putAll, Act.put, List.setIfInBounds_toArray, List.set_cons_zero, List.set_cons_succ]
    rfl
  refine one_ (i := 8) (N := none) #[true, true, true, true, true, true, true, true, true, false] rfl rfl (by kernel_rfl) (by decide) (fun K hK => ?_)
  refine st_step (by rfl) rfl 36 (.tmp 3) (.tmp 10) rfl g6_ rfl rfl GG6.out (m := 4) (by kernel_rfl) (num_length _) (by first | rfl | (rw [num_length]; rfl) | rw [num_length, num_length]) ?_
  intro w6 h1 h2 h3 h4
  have G3 := Aside0.mk h1
  have T10 := Aside0.mk (St.other T9.out h2 h3 EE6.out)
  have G4 := Aside0.mk ((h2 _ NN.out.symm).trans GG7.out)
  clear h1 h2 h3 h4
  refine hK.out _ _ (T10.out) (fun hHeld => ?_)
  clear hK K
  refine one_ (i := 9) (N := none) #[true, true, true, true, true, true, true, true, true, true] rfl rfl (by kernel_rfl) (by decide) (fun K hK => ?_)
  refine st_step (by rfl) rfl 36 (.tmp 4) (.tmp 13) rfl g7_ rfl rfl G4.out (m := 4) (by kernel_rfl) (num_length _) (by first | rfl | (rw [num_length]; rfl) | rw [num_length, num_length]) ?_
  intro w6 h1 h2 h3 h4
  have G5 := Aside0.mk h1
  have T11 := Aside0.mk (St.other T10.out h2 h3 EE7.out)
  have G6 := Aside0.mk ((h2 _ NN.out).trans G3.out)
  clear h1 h2 h3 h4
  refine hK.out _ _ (T11.out) (fun hHeld => ?_)
  clear hK K
  refine done_ (by kernel_rfl) ?_

  rw [HW4.out] at G5 ⊢
  have EL := Aside0.mk EE6.out
  have U := Aside0.mk T11.out.drew
  have A := Aside0.mk (blk_drew G6.out)
  have B := Aside0.mk (blk_drew G5.out)
  clear T T9 T10 T11 G3 G4 G5 G6 GG6 GG7 EE6 EE7 NN HW4
  go_wp2
  refine start_ (n := 5) (S := fun w' => St w [⟨74, .u64, wid W⟩, ⟨44, .u64, z4⟩] w' ∧ w'.heap[g6_]? = some (.cells (arr .u64 (num (W))) 36 (0, 0)) ∧ w'.heap[g7_]? = some (.cells (arr .u64 (num H)) 36 (0, 0))) (ds := []) #[false, false, false, false, false] (by kernel_rfl) rfl rfl ⟨U.out, A.out, B.out⟩ (fun hHeld => ?_)
  refine take_ (i := 0) (N := some 14) (v := ?_) (a' := ?_) #[true, false, false, false, false] rfl rfl (by kernel_rfl) (fun _ _ _ h => h) (Or.inl ⟨by rfl, ?_⟩) hHeld ?_ ?_
  rotate_left
  · rintro w' ⟨s0, s1, s2⟩
    refine (run_ld 36 (.tmp 4) (by rfl) g7_ (by rfl) s2 Try.underlying36 (m := 4) (by kernel_rfl) (num_length _)).trans ?_; with_reducible rfl
  rotate_left
  · simp only [Act.put, OpenRow.s1, OpenRow.s2, OpenRow.s3, i64_w, i32_w]; rfl
  refine join_ (σ := Nat) 1 #[true, true, true, true, false] (fun s_ => [(15, .agg (arr .u64 (num 38))), (16, .agg (arr .u64 (wid X))), (5, .pointer (some ⟨s_, 0, none⟩))]) (fun s_ w' => (St w [⟨74, .u64, wid W⟩, ⟨44, .u64, z4⟩] w') ∧ (w'.heap[g6_]? = some (.cells (arr .u64 (num (W))) 36 (0, 0))) ∧ (w'.heap[g7_]? = some (.cells (arr .u64 (num H)) 36 (0, 0))) ∧ w'.heap[s_]? = some (.cells (arr .u64 z8) 74 (0, 0)) ∧ w.heap.size + 2 ≤ s_ ∧ g6_ ≠ s_ ∧ g7_ ≠ s_) ?_ ?_
  rotate_left
  · intro hCont
    refine two_ (i := 1) (j := 3) (Ni := some 15) (Nj := some 5) #[true, true, false, false, false] #[true, false, false, true, false] rfl rfl rfl rfl (by kernel_rfl) (by decide) (by decide) (fun K hK => ?_) (fun K hK => ?_)
    · skip
      refine goes_ Try.func95 (by kernel_rfl) rfl #[.int .u64 38] (by rfl) rfl rfl (by simp only [List.map_toArray, List.map_cons, List.map_nil] <;> rfl) ?_
      with_reducible refine (HS38.out _).mono ?_
      rintro e w3 ⟨rfl, hb⟩
      refine ⟨_, rfl, ?_⟩
      have U_1 := Aside0.mk (U.out.step hb)
      have A_1 := Aside0.mk (blk_below A.out hb)
      have B_1 := Aside0.mk (blk_below B.out hb)
      clear hb
      refine hK.out _ _ ⟨U_1.out, A_1.out, B_1.out⟩ (fun hHeld => ?_)
      clear hK K
      refine norm_ (a' := ?_) ?_ ?_
      rotate_left
      · show Act.put _ (some 15) _ = _
        simp only [Act.put, OpenRow.s1, OpenRow.s2, OpenRow.s3, i64_w, i32_w]
        rfl
      refine two_ (i := 2) (j := 3) (Ni := some 16) (Nj := some 5) #[true, true, true, false, false] #[true, true, false, true, false] rfl rfl rfl rfl (by kernel_rfl) (by decide) (by decide) (fun K hK => ?_) (fun K hK => ?_)
      · skip
        refine goes_ Try.func88 (by kernel_rfl) rfl #[.agg (arr .u64 (num H)), .agg (arr .u64 (num 38))] (by rfl) rfl rfl (by simp only [List.map_toArray, List.map_cons, List.map_nil] <;> rfl) ?_
        with_reducible refine (HT.out _).mono ?_
        rintro e w3 ⟨rfl, hb⟩
        refine ⟨_, rfl, ?_⟩
        have U_1_2 := Aside0.mk (U_1.out.step hb)
        have A_1_2 := Aside0.mk (blk_below A_1.out hb)
        have B_1_2 := Aside0.mk (blk_below B_1.out hb)
        clear hb
        refine hK.out _ _ ⟨U_1_2.out, A_1_2.out, B_1_2.out⟩ (fun hHeld => ?_)
        clear hK K
        refine norm_ (a' := ?_) ?_ ?_
        rotate_left
        · show Act.put _ (some 16) _ = _
          simp only [Act.put, OpenRow.s1, OpenRow.s2, OpenRow.s3, i64_w, i32_w]
          rfl
        refine one_ (i := 3) (N := some 5) #[true, true, true, true, false] rfl rfl (by kernel_rfl) (by decide) (fun K hK => ?_)
        refine value_ (w1 := ?_) (v := ?_) (by rfl) rfl ?_ ?_
        rotate_left 2
        · go_simp
          constructor
          · rfl
          · rfl
        have U_1_2_3 := Aside0.mk (U_1_2.out.alloc (.cells (arr .u64 z8) 74))
        have A_1_2_3 := Aside0.mk (blk_alloc A_1_2.out (.cells (arr .u64 z8) 74))
        have B_1_2_3 := Aside0.mk (blk_alloc B_1_2.out (.cells (arr .u64 z8) 74))
        have G3_1_2_3 := Aside0.mk (U_1_2.out.new (.cells (arr .u64 z8) 74))
        have E3 := Aside0.mk U_1_2.out.size
        have M3_0 := Aside0.mk (ne_of_blk A_1_2.out)
        have M3_1 := Aside0.mk (ne_of_blk B_1_2.out)
        refine hK.out _ _ ⟨U_1_2_3.out, A_1_2_3.out, B_1_2_3.out⟩ (fun hHeld => ?_)
        clear hK K
        refine norm_ (a' := ?_) ?_ ?_
        rotate_left
        · show Act.put _ (some 5) _ = _
          simp only [Act.put, OpenRow.s1, OpenRow.s2, OpenRow.s3, i64_w, i32_w]
          rfl
        exact norm_ (by simp only [putAll, Act.put, List.setIfInBounds_toArray, List.set_cons_zero, List.set_cons_succ] <;> rfl) (hCont _ _ ⟨U_1_2_3.out, A_1_2_3.out, B_1_2_3.out, G3_1_2_3.out, E3.out, M3_0.out, M3_1.out⟩)
      · skip
        refine value_ (w1 := ?_) (v := ?_) (by rfl) rfl ?_ ?_
        rotate_left 2
        · go_simp
          constructor
          · rfl
          · rfl
        have U_1_3 := Aside0.mk (U_1.out.alloc (.cells (arr .u64 z8) 74))
        have A_1_3 := Aside0.mk (blk_alloc A_1.out (.cells (arr .u64 z8) 74))
        have B_1_3 := Aside0.mk (blk_alloc B_1.out (.cells (arr .u64 z8) 74))
        have G3_1_3 := Aside0.mk (U_1.out.new (.cells (arr .u64 z8) 74))
        have E3 := Aside0.mk U_1.out.size
        have M3_0 := Aside0.mk (ne_of_blk A_1.out)
        have M3_1 := Aside0.mk (ne_of_blk B_1.out)
        refine hK.out _ _ ⟨U_1_3.out, A_1_3.out, B_1_3.out⟩ (fun hHeld => ?_)
        clear hK K
        refine norm_ (a' := ?_) ?_ ?_
        rotate_left
        · show Act.put _ (some 5) _ = _
          simp only [Act.put, OpenRow.s1, OpenRow.s2, OpenRow.s3, i64_w, i32_w]
          rfl
        refine one_ (i := 2) (N := some 16) #[true, true, true, true, false] rfl rfl (by kernel_rfl) (by decide) (fun K hK => ?_)
        refine goes_ Try.func88 (by kernel_rfl) rfl #[.agg (arr .u64 (num H)), .agg (arr .u64 (num 38))] (by rfl) rfl rfl (by simp only [List.map_toArray, List.map_cons, List.map_nil] <;> rfl) ?_
        with_reducible refine (HT.out _).mono ?_
        rintro e w3 ⟨rfl, hb⟩
        refine ⟨_, rfl, ?_⟩
        have U_1_3_2 := Aside0.mk (U_1_3.out.step hb)
        have A_1_3_2 := Aside0.mk (blk_below A_1_3.out hb)
        have B_1_3_2 := Aside0.mk (blk_below B_1_3.out hb)
        have G3_1_3_2 := Aside0.mk (blk_below G3_1_3.out hb)
        clear hb
        refine hK.out _ _ ⟨U_1_3_2.out, A_1_3_2.out, B_1_3_2.out⟩ (fun hHeld => ?_)
        clear hK K
        refine norm_ (a' := ?_) ?_ ?_
        rotate_left
        · show Act.put _ (some 16) _ = _
          simp only [Act.put, OpenRow.s1, OpenRow.s2, OpenRow.s3, i64_w, i32_w]
          rfl
        exact norm_ (by simp only [putAll, Act.put, List.setIfInBounds_toArray, List.set_cons_zero, List.set_cons_succ] <;> rfl) (hCont _ _ ⟨U_1_3_2.out, A_1_3_2.out, B_1_3_2.out, G3_1_3_2.out, E3.out, M3_0.out, M3_1.out⟩)
    · skip
      refine value_ (w1 := ?_) (v := ?_) (by rfl) rfl ?_ ?_
      rotate_left 2
      · go_simp
        constructor
        · rfl
        · rfl
      have U_3 := Aside0.mk (U.out.alloc (.cells (arr .u64 z8) 74))
      have A_3 := Aside0.mk (blk_alloc A.out (.cells (arr .u64 z8) 74))
      have B_3 := Aside0.mk (blk_alloc B.out (.cells (arr .u64 z8) 74))
      have G3_3 := Aside0.mk (U.out.new (.cells (arr .u64 z8) 74))
      have E3 := Aside0.mk U.out.size
      have M3_0 := Aside0.mk (ne_of_blk A.out)
      have M3_1 := Aside0.mk (ne_of_blk B.out)
      refine hK.out _ _ ⟨U_3.out, A_3.out, B_3.out⟩ (fun hHeld => ?_)
      clear hK K
      refine norm_ (a' := ?_) ?_ ?_
      rotate_left
      · show Act.put _ (some 5) _ = _
        simp only [Act.put, OpenRow.s1, OpenRow.s2, OpenRow.s3, i64_w, i32_w]
        rfl
      refine one_ (i := 1) (N := some 15) #[true, true, false, true, false] rfl rfl (by kernel_rfl) (by decide) (fun K hK => ?_)
      refine goes_ Try.func95 (by kernel_rfl) rfl #[.int .u64 38] (by rfl) rfl rfl (by simp only [List.map_toArray, List.map_cons, List.map_nil] <;> rfl) ?_
      with_reducible refine (HS38.out _).mono ?_
      rintro e w3 ⟨rfl, hb⟩
      refine ⟨_, rfl, ?_⟩
      have U_3_1 := Aside0.mk (U_3.out.step hb)
      have A_3_1 := Aside0.mk (blk_below A_3.out hb)
      have B_3_1 := Aside0.mk (blk_below B_3.out hb)
      have G3_3_1 := Aside0.mk (blk_below G3_3.out hb)
      clear hb
      refine hK.out _ _ ⟨U_3_1.out, A_3_1.out, B_3_1.out⟩ (fun hHeld => ?_)
      clear hK K
      refine norm_ (a' := ?_) ?_ ?_
      rotate_left
      · show Act.put _ (some 15) _ = _
        simp only [Act.put, OpenRow.s1, OpenRow.s2, OpenRow.s3, i64_w, i32_w]
        rfl
      refine one_ (i := 2) (N := some 16) #[true, true, true, true, false] rfl rfl (by kernel_rfl) (by decide) (fun K hK => ?_)
      refine goes_ Try.func88 (by kernel_rfl) rfl #[.agg (arr .u64 (num H)), .agg (arr .u64 (num 38))] (by rfl) rfl rfl (by simp only [List.map_toArray, List.map_cons, List.map_nil] <;> rfl) ?_
      with_reducible refine (HT.out _).mono ?_
      rintro e w3 ⟨rfl, hb⟩
      refine ⟨_, rfl, ?_⟩
      have U_3_1_2 := Aside0.mk (U_3_1.out.step hb)
      have A_3_1_2 := Aside0.mk (blk_below A_3_1.out hb)
      have B_3_1_2 := Aside0.mk (blk_below B_3_1.out hb)
      have G3_3_1_2 := Aside0.mk (blk_below G3_3_1.out hb)
      clear hb
      refine hK.out _ _ ⟨U_3_1_2.out, A_3_1_2.out, B_3_1_2.out⟩ (fun hHeld => ?_)
      clear hK K
      refine norm_ (a' := ?_) ?_ ?_
      rotate_left
      · show Act.put _ (some 16) _ = _
        simp only [Act.put, OpenRow.s1, OpenRow.s2, OpenRow.s3, i64_w, i32_w]
        rfl
      exact norm_ (by simp only [putAll, Act.put, List.setIfInBounds_toArray, List.set_cons_zero, List.set_cons_succ] <;> rfl) (hCont _ _ ⟨U_3_1_2.out, A_3_1_2.out, B_3_1_2.out, G3_3_1_2.out, E3.out, M3_0.out, M3_1.out⟩)
  rintro g3_ w9 ⟨hS0, hS1, hS2, hG3, hE3, hM3_0, hM3_1⟩
  have T9 := Aside0.mk hS0
  have Z9_1 := Aside0.mk hS1
  have Z9_2 := Aside0.mk hS2
  have GG3 := Aside0.mk hG3
  have EE3 := Aside0.mk hE3
  have MM3_0 := Aside0.mk hM3_0
  have MM3_1 := Aside0.mk hM3_1
  have hHeld := (And.intro hS0 (And.intro hS1 hS2))
  clear hG3 hE3 hM3_0 hM3_1
  refine norm_ (a' := ?_) ?_ ?_
  rotate_left
  · simp only [putAll, Act.put, List.setIfInBounds_toArray, List.set_cons_zero, List.set_cons_succ]
    rfl
  refine one_ (i := 4) (N := none) #[true, true, true, true, true] rfl rfl (by kernel_rfl) (by decide) (fun K hK => ?_)
  refine st_step (by rfl) rfl 74 (.tmp 5) (.tmp 16) rfl g3_ rfl rfl GG3.out (m := 8) (by kernel_rfl) (wid_length _) (by rw [wid_length]; rfl) ?_
  intro w6 h1 h2 h3 h4
  have D := Aside0.mk h1
  have V := Aside0.mk (St.other T9.out h2 h3 EE3.out)
  have A2 := Aside0.mk ((h2 _ MM3_0.out).trans Z9_1.out)
  have B2 := Aside0.mk ((h2 _ MM3_1.out).trans Z9_2.out)
  clear h1 h2 h3 h4
  refine hK.out _ _ ⟨V.out, A2.out, B2.out⟩ (fun hHeld => ?_)
  clear hK K
  refine done_ (by kernel_rfl) ?_

  have MM := Aside0.mk MM3_0.out
  have V0 := Aside0.mk V.out.drew
  have A0 := Aside0.mk (blk_drew A2.out)
  have D0 := Aside0.mk (blk_drew D.out)
  clear T9 Z9_1 Z9_2 GG3 EE3 MM3_0 MM3_1 V A2 B2 D U A B
  go_wp2
  refine start_ (n := 10) (S := fun w' => St w [⟨74, .u64, wid W⟩, ⟨44, .u64, z4⟩] w' ∧ w'.heap[g6_]? = some (.cells (arr .u64 (num (W))) 36 (0, 0)) ∧ w'.heap[g3_]? = some (.cells (arr .u64 (wid X)) 74 (0, 0))) (ds := [8]) #[false, false, false, false, false, false, false, false, false, false] (by kernel_rfl) rfl rfl ⟨V0.out, A0.out, D0.out⟩ (fun hHeld => ?_)
  refine pure_ (i := 1) (N := some 19) (v := ?_) (a' := ?_) #[false, true, false, false, false, false, false, false, false, false] rfl rfl (by kernel_rfl) (fun _ _ _ h => h) (Or.inl ⟨by rfl, ?_⟩) ?_ ?_
  rotate_left
  · intro w'; go_simp; with_reducible rfl
  rotate_left
  · simp only [Act.put, OpenRow.s1, OpenRow.s2, OpenRow.s3, i64_w, i32_w]; rfl
  refine pure_ (i := 2) (N := some 20) (v := ?_) (a' := ?_) #[false, true, true, false, false, false, false, false, false, false] rfl rfl (by kernel_rfl) (fun _ _ _ h => h) (Or.inl ⟨by rfl, ?_⟩) ?_ ?_
  rotate_left
  · intro w'; go_simp; with_reducible rfl
  rotate_left
  · simp only [Act.put, OpenRow.s1, OpenRow.s2, OpenRow.s3, i64_w, i32_w]; rfl
  refine take_ (i := 0) (N := some 18) (v := ?_) (a' := ?_) #[true, true, true, false, false, false, false, false, false, false] rfl rfl (by kernel_rfl) (fun _ _ _ h => h) (Or.inl ⟨by rfl, ?_⟩) hHeld ?_ ?_
  rotate_left
  · rintro w' ⟨s0, s1, s2⟩
    refine (run_ld 36 (.tmp 3) (by rfl) g6_ (by rfl) s1 Try.underlying36 (m := 4) (by kernel_rfl) (num_length _)).trans ?_; with_reducible rfl
  rotate_left
  · simp only [Act.put, OpenRow.s1, OpenRow.s2, OpenRow.s3, i64_w, i32_w]; rfl
  refine take_ (i := 3) (N := some 21) (v := ?_) (a' := ?_) #[true, true, true, true, false, false, false, false, false, false] rfl rfl (by kernel_rfl) (fun _ _ _ h => h) (Or.inl ⟨by rfl, ?_⟩) hHeld ?_ ?_
  rotate_left
  · rintro w' ⟨s0, s1, s2⟩
    refine (run_ldm 36 (.tmp 20) (by rfl) g3_ 0 (by rfl) (num X) s2 (wid_low X) Try.underlying36 (m := 4) (by kernel_rfl) (num_length _)).trans ?_; with_reducible rfl
  rotate_left
  · simp only [Act.put, OpenRow.s1, OpenRow.s2, OpenRow.s3, i64_w, i32_w]; rfl
  refine one_ (i := 4) (N := some 22) #[true, true, true, true, true, false, false, false, false, false] rfl rfl (by kernel_rfl) (by decide) (fun K hK => ?_)
  refine goes_ Try.func82 (by kernel_rfl) rfl #[.agg (arr .u64 (num W)), .agg (arr .u64 (num X))] (by rfl) rfl rfl (by simp only [List.map_toArray, List.map_cons, List.map_nil] <;> rfl) ?_
  with_reducible refine (HP1.out _).mono ?_
  rintro e w3 ⟨rfl, hb⟩
  refine ⟨_, rfl, ?_⟩
  have V1 := Aside0.mk (V0.out.step hb)
  have A1 := Aside0.mk (blk_below A0.out hb)
  have D1 := Aside0.mk (blk_below D0.out hb)
  clear hb
  refine hK.out _ _ ⟨V1.out, A1.out, D1.out⟩ (fun hHeld => ?_)
  clear hK K
  refine norm_ (a' := ?_) ?_ ?_
  rotate_left
  · show Act.put _ (some 22) _ = _
    simp only [Act.put, OpenRow.s1, OpenRow.s2, OpenRow.s3, i64_w, i32_w]
    rfl
  refine pure_ (i := 5) (N := some 17) (v := ?_) (a' := ?_) #[true, true, true, true, true, true, false, false, false, false] rfl rfl (by kernel_rfl) (fun _ _ _ h => h) (Or.inl ⟨by rfl, ?_⟩) ?_ ?_
  rotate_left
  · intro w'; go_simp; with_reducible rfl
  rotate_left
  · simp only [Act.put, OpenRow.s1, OpenRow.s2, OpenRow.s3, i64_w, i32_w]; rfl
  refine pure_ (i := 6) (N := some 23) (v := ?_) (a' := ?_) #[true, true, true, true, true, true, true, false, false, false] rfl rfl (by kernel_rfl) (fun _ _ _ h => h) (Or.inl ⟨by rfl, ?_⟩) ?_ ?_
  rotate_left
  · intro w'; go_simp; with_reducible rfl
  rotate_left
  · simp only [Act.put, OpenRow.s1, OpenRow.s2, OpenRow.s3, i64_w, i32_w]; rfl
  refine pure_ (i := 7) (N := some 24) (v := ?_) (a' := ?_) #[true, true, true, true, true, true, true, true, false, false] rfl rfl (by kernel_rfl) (fun _ _ _ h => h) (Or.inl ⟨by rfl, ?_⟩) ?_ ?_
  rotate_left
  · intro w'; go_simp; with_reducible rfl
  rotate_left
  · simp only [Act.put, OpenRow.s1, OpenRow.s2, OpenRow.s3, i64_w, i32_w]; rfl
  refine last_ (i := 8) (N := none) #[true, true, true, true, true, true, true, true, true, false] rfl rfl (by kernel_rfl) (by decide) (fun K hK => ?_)
  refine st_step (by rfl) rfl 36 (.tmp 3) (.tmp 23) rfl g6_ rfl rfl A1.out (m := 4) (by kernel_rfl) (num_length _) (by rw [num_length, num_length]) ?_
  intro w6 h1 h2 h3 h4
  have A2 := Aside0.mk h1
  have V2 := Aside0.mk (St.other V1.out h2 h3 EL.out)
  have D2 := Aside0.mk ((h2 _ MM.out.symm).trans D1.out)
  clear h1 h2 h3 h4
  refine hK.out _ _ ?_
  clear hK K
  refine pure_ (i := 9) (N := some 6) (v := ?_) (a' := ?_) #[true, true, true, true, true, true, true, true, true, true] rfl rfl (by kernel_rfl) (fun _ _ _ h => h) (Or.inl ⟨by rfl, ?_⟩) ?_ ?_
  rotate_left
  · intro w'; go_simp; with_reducible rfl
  rotate_left
  · simp only [Act.put, OpenRow.s1, OpenRow.s2, OpenRow.s3, i64_w, i32_w]; rfl
  refine done_ (by kernel_rfl) ?_

  have ct := blk_get D2.out 4 (by rw [wid_length]; omega)
  rw [HWT.out] at ct
  go_wp2
  have V3 := Aside0.mk V2.out.drew
  have A3 := Aside0.mk (blk_drew A2.out)
  have D3 := Aside0.mk (blk_drew D2.out)
  refine start_ (n := 9) (S := fun w' => St w [⟨74, .u64, wid W⟩, ⟨44, .u64, z4⟩] w' ∧ w'.heap[g6_]? = some (.cells (arr .u64 (num (l1))) 36 (0, 0)) ∧ w'.heap[g3_]? = some (.cells (arr .u64 (wid X)) 74 (0, 0))) (ds := [7]) #[false, false, false, false, false, false, false, false, false] (by kernel_rfl) rfl rfl ⟨V3.out, A3.out, D3.out⟩ (fun hHeld => ?_)
  refine pure_ (i := 1) (N := some 32) (v := ?_) (a' := ?_) #[false, true, false, false, false, false, false, false, false] rfl rfl (by kernel_rfl) (fun _ _ _ h => h) (Or.inl ⟨by rfl, ?_⟩) ?_ ?_
  rotate_left
  · intro w'; go_simp; with_reducible rfl
  rotate_left
  · simp only [Act.put, OpenRow.s1, OpenRow.s2, OpenRow.s3, i64_w, i32_w]; rfl
  refine take_ (i := 0) (N := some 31) (v := ?_) (a' := ?_) #[true, true, false, false, false, false, false, false, false] rfl rfl (by kernel_rfl) (fun _ _ _ h => h) (Or.inl ⟨by rfl, ?_⟩) hHeld ?_ ?_
  rotate_left
  · rintro w' ⟨s0, s1, s2⟩
    refine (run_ld 36 (.tmp 3) (by rfl) g6_ (by rfl) s1 Try.underlying36 (m := 4) (by kernel_rfl) (num_length _)).trans ?_; with_reducible rfl
  rotate_left
  · simp only [Act.put, OpenRow.s1, OpenRow.s2, OpenRow.s3, i64_w, i32_w]; rfl
  refine one_ (i := 2) (N := some 33) #[true, true, true, false, false, false, false, false, false] rfl rfl (by kernel_rfl) (by decide) (fun K hK => ?_)
  refine goes_ Try.func95 (by kernel_rfl) rfl #[.int .u64 (m : Int)] (by rfl) rfl rfl (by simp only [List.map_toArray, List.map_cons, List.map_nil] <;> rfl) ?_
  with_reducible refine (HS1.out _).mono ?_
  rintro e w3 ⟨rfl, hb⟩
  refine ⟨_, rfl, ?_⟩
  have V4 := Aside0.mk (V3.out.step hb)
  have A4 := Aside0.mk (blk_below A3.out hb)
  have D4 := Aside0.mk (blk_below D3.out hb)
  clear hb
  refine hK.out _ _ ⟨V4.out, A4.out, D4.out⟩ (fun hHeld => ?_)
  clear hK K
  refine norm_ (a' := ?_) ?_ ?_
  rotate_left
  · show Act.put _ (some 33) _ = _
    simp only [Act.put, OpenRow.s1, OpenRow.s2, OpenRow.s3, i64_w, i32_w]
    rfl
  refine one_ (i := 3) (N := some 34) #[true, true, true, true, false, false, false, false, false] rfl rfl (by kernel_rfl) (by decide) (fun K hK => ?_)
  refine goes_ Try.func82 (by kernel_rfl) rfl #[.agg (arr .u64 (num l1)), .agg (arr .u64 (num m))] (by rfl) rfl rfl (by simp only [List.map_toArray, List.map_cons, List.map_nil] <;> rfl) ?_
  with_reducible refine (HP2.out _).mono ?_
  rintro e w3 ⟨rfl, hb⟩
  refine ⟨_, rfl, ?_⟩
  have V5 := Aside0.mk (V4.out.step hb)
  have A5 := Aside0.mk (blk_below A4.out hb)
  have D5 := Aside0.mk (blk_below D4.out hb)
  clear hb
  refine hK.out _ _ ⟨V5.out, A5.out, D5.out⟩ (fun hHeld => ?_)
  clear hK K
  refine norm_ (a' := ?_) ?_ ?_
  rotate_left
  · show Act.put _ (some 34) _ = _
    simp only [Act.put, OpenRow.s1, OpenRow.s2, OpenRow.s3, i64_w, i32_w]
    rfl
  refine pure_ (i := 4) (N := some 30) (v := ?_) (a' := ?_) #[true, true, true, true, true, false, false, false, false] rfl rfl (by kernel_rfl) (fun _ _ _ h => h) (Or.inl ⟨by rfl, ?_⟩) ?_ ?_
  rotate_left
  · intro w'; go_simp; with_reducible rfl
  rotate_left
  · simp only [Act.put, OpenRow.s1, OpenRow.s2, OpenRow.s3, i64_w, i32_w]; rfl
  refine pure_ (i := 5) (N := some 35) (v := ?_) (a' := ?_) #[true, true, true, true, true, true, false, false, false] rfl rfl (by kernel_rfl) (fun _ _ _ h => h) (Or.inl ⟨by rfl, ?_⟩) ?_ ?_
  rotate_left
  · intro w'; go_simp; with_reducible rfl
  rotate_left
  · simp only [Act.put, OpenRow.s1, OpenRow.s2, OpenRow.s3, i64_w, i32_w]; rfl
  refine pure_ (i := 6) (N := some 36) (v := ?_) (a' := ?_) #[true, true, true, true, true, true, true, false, false] rfl rfl (by kernel_rfl) (fun _ _ _ h => h) (Or.inl ⟨by rfl, ?_⟩) ?_ ?_
  rotate_left
  · intro w'; go_simp; with_reducible rfl
  rotate_left
  · simp only [Act.put, OpenRow.s1, OpenRow.s2, OpenRow.s3, i64_w, i32_w]; rfl
  refine last_ (i := 7) (N := none) #[true, true, true, true, true, true, true, true, false] rfl rfl (by kernel_rfl) (by decide) (fun K hK => ?_)
  refine st_step (by rfl) rfl 36 (.tmp 3) (.tmp 35) rfl g6_ rfl rfl A5.out (m := 4) (by kernel_rfl) (num_length _) (by rw [num_length, num_length]) ?_
  intro w6 h1 h2 h3 h4
  have A6 := Aside0.mk h1
  have V6 := Aside0.mk (St.other V5.out h2 h3 EL.out)
  have D6 := Aside0.mk ((h2 _ MM.out.symm).trans D5.out)
  clear h1 h2 h3 h4
  refine hK.out _ _ ?_
  clear hK K
  refine pure_ (i := 8) (N := some 6) (v := ?_) (a' := ?_) #[true, true, true, true, true, true, true, true, true] rfl rfl (by kernel_rfl) (fun _ _ _ h => h) (Or.inl ⟨by rfl, ?_⟩) ?_ ?_
  rotate_left
  · intro w'; go_simp; with_reducible rfl
  rotate_left
  · simp only [Act.put, OpenRow.s1, OpenRow.s2, OpenRow.s3, i64_w, i32_w]; rfl
  refine done_ (by kernel_rfl) ?_

  go_wp2
  have V7 := Aside0.mk V6.out.drew
  have A7 := Aside0.mk (blk_drew A6.out)
  have D7 := Aside0.mk (blk_drew D6.out)
  refine start_ (n := 9) (S := fun w' => St w [⟨74, .u64, wid W⟩, ⟨44, .u64, z4⟩] w' ∧ w'.heap[g6_]? = some (.cells (arr .u64 (num (l2))) 36 (0, 0)) ∧ w'.heap[g3_]? = some (.cells (arr .u64 (wid X)) 74 (0, 0))) (ds := [8]) #[false, false, false, false, false, false, false, false, false] (by kernel_rfl) rfl rfl ⟨V7.out, A7.out, D7.out⟩ (fun hHeld => ?_)
  refine pure_ (i := 1) (N := some 39) (v := ?_) (a' := ?_) #[false, true, false, false, false, false, false, false, false] rfl rfl (by kernel_rfl) (fun _ _ _ h => h) (Or.inl ⟨by rfl, ?_⟩) ?_ ?_
  rotate_left
  · intro w'; go_simp; with_reducible rfl
  rotate_left
  · simp only [Act.put, OpenRow.s1, OpenRow.s2, OpenRow.s3, i64_w, i32_w]; rfl
  refine pure_ (i := 2) (N := some 40) (v := ?_) (a' := ?_) #[false, true, true, false, false, false, false, false, false] rfl rfl (by kernel_rfl) (fun _ _ _ h => h) (Or.inl ⟨by rfl, ?_⟩) ?_ ?_
  rotate_left
  · intro w'; go_simp; with_reducible rfl
  rotate_left
  · simp only [Act.put, OpenRow.s1, OpenRow.s2, OpenRow.s3, i64_w, i32_w]; rfl
  refine take_ (i := 0) (N := some 38) (v := ?_) (a' := ?_) #[true, true, true, false, false, false, false, false, false] rfl rfl (by kernel_rfl) (fun _ _ _ h => h) (Or.inl ⟨by rfl, ?_⟩) hHeld ?_ ?_
  rotate_left
  · rintro w' ⟨s0, s1, s2⟩
    refine (run_ld 36 (.tmp 3) (by rfl) g6_ (by rfl) s1 Try.underlying36 (m := 4) (by kernel_rfl) (num_length _)).trans ?_; with_reducible rfl
  rotate_left
  · simp only [Act.put, OpenRow.s1, OpenRow.s2, OpenRow.s3, i64_w, i32_w]; rfl
  refine one_ (i := 3) (N := some 41) #[true, true, true, true, false, false, false, false, false] rfl rfl (by kernel_rfl) (by decide) (fun K hK => ?_)
  refine goes_ Try.func95 (by kernel_rfl) rfl #[.int .u64 (m2 : Int)] (by rfl) rfl rfl (by simp only [List.map_toArray, List.map_cons, List.map_nil] <;> rfl) ?_
  with_reducible refine (HS2.out _).mono ?_
  rintro e w3 ⟨rfl, hb⟩
  refine ⟨_, rfl, ?_⟩
  have V8 := Aside0.mk (V7.out.step hb)
  have A8 := Aside0.mk (blk_below A7.out hb)
  have D8 := Aside0.mk (blk_below D7.out hb)
  clear hb
  refine hK.out _ _ ⟨V8.out, A8.out, D8.out⟩ (fun hHeld => ?_)
  clear hK K
  refine norm_ (a' := ?_) ?_ ?_
  rotate_left
  · show Act.put _ (some 41) _ = _
    simp only [Act.put, OpenRow.s1, OpenRow.s2, OpenRow.s3, i64_w, i32_w]
    rfl
  refine one_ (i := 4) (N := some 42) #[true, true, true, true, true, false, false, false, false] rfl rfl (by kernel_rfl) (by decide) (fun K hK => ?_)
  refine goes_ Try.func82 (by kernel_rfl) rfl #[.agg (arr .u64 (num l2)), .agg (arr .u64 (num m2))] (by rfl) rfl rfl (by simp only [List.map_toArray, List.map_cons, List.map_nil] <;> rfl) ?_
  with_reducible refine (HP3.out _).mono ?_
  rintro e w3 ⟨rfl, hb⟩
  refine ⟨_, rfl, ?_⟩
  have V9 := Aside0.mk (V8.out.step hb)
  have A9 := Aside0.mk (blk_below A8.out hb)
  have D9 := Aside0.mk (blk_below D8.out hb)
  clear hb
  refine hK.out _ _ ⟨V9.out, A9.out, D9.out⟩ (fun hHeld => ?_)
  clear hK K
  refine norm_ (a' := ?_) ?_ ?_
  rotate_left
  · show Act.put _ (some 42) _ = _
    simp only [Act.put, OpenRow.s1, OpenRow.s2, OpenRow.s3, i64_w, i32_w]
    rfl
  refine pure_ (i := 5) (N := some 37) (v := ?_) (a' := ?_) #[true, true, true, true, true, true, false, false, false] rfl rfl (by kernel_rfl) (fun _ _ _ h => h) (Or.inl ⟨by rfl, ?_⟩) ?_ ?_
  rotate_left
  · intro w'; go_simp; with_reducible rfl
  rotate_left
  · simp only [Act.put, OpenRow.s1, OpenRow.s2, OpenRow.s3, i64_w, i32_w]; rfl
  refine pure_ (i := 6) (N := some 43) (v := ?_) (a' := ?_) #[true, true, true, true, true, true, true, false, false] rfl rfl (by kernel_rfl) (fun _ _ _ h => h) (Or.inl ⟨by rfl, ?_⟩) ?_ ?_
  rotate_left
  · intro w'; go_simp; with_reducible rfl
  rotate_left
  · simp only [Act.put, OpenRow.s1, OpenRow.s2, OpenRow.s3, i64_w, i32_w]; rfl
  refine pure_ (i := 7) (N := some 44) (v := ?_) (a' := ?_) #[true, true, true, true, true, true, true, true, false] rfl rfl (by kernel_rfl) (fun _ _ _ h => h) (Or.inl ⟨by rfl, ?_⟩) ?_ ?_
  rotate_left
  · intro w'; go_simp; with_reducible rfl
  rotate_left
  · simp only [Act.put, OpenRow.s1, OpenRow.s2, OpenRow.s3, i64_w, i32_w]; rfl
  refine last_ (i := 8) (N := none) #[true, true, true, true, true, true, true, true, true] rfl rfl (by kernel_rfl) (by decide) (fun K hK => ?_)
  refine st_step (by rfl) rfl 36 (.tmp 3) (.tmp 43) rfl g6_ rfl rfl A9.out (m := 4) (by kernel_rfl) (num_length _) (by rw [num_length, num_length]) ?_
  intro w6 h1 h2 h3 h4
  have A10 := Aside0.mk h1
  have V10 := Aside0.mk (St.other V9.out h2 h3 EL.out)
  have D10 := Aside0.mk ((h2 _ MM.out.symm).trans D9.out)
  clear h1 h2 h3 h4
  refine hK.out _ _ ?_
  clear hK K
  refine done_ (by kernel_rfl) ?_

  go_wp2_with (first
    | ((with_reducible refine gate_dst (N := 45) rfl ?_); refine ld_arr rfl 36 (.tmp 3) rfl g6_ rfl A10.out Try.underlying36 (m := 4) (by kernel_rfl) (num_length _) ?_)
    | ((with_reducible refine (HQ.out _).mono ?_); rintro e w7 ⟨rfl, hb⟩; have V11 := Aside0.mk (V10.out.step hb); clear hb)
    | (refine st_arr rfl 44 (.tmp 2) (.tmp 46) rfl (w.heap.size + 1) (xs := num r) rfl rfl (V11.out.blk 1 rfl) (m := 4) (by kernel_rfl) (num_length _) (by rw [num_length]; rfl) ?_; intro w' h1 h2 h4 h3; have H1 := Aside0.mk h1; have V12 := Aside0.mk (V11.out.row 1 rfl h1 h2 h3); clear h1 h2 h3 h4))
  exact bodyPost_ret (results_cell_row Try.results92 _ _ (w.heap.size + 1) 44 _ (0, 0) _ rfl H1.out Try.underlying44 rfl (by rw [arr_size, num_length]; kernel_rfl)) rfl ⟨rfl, V12.out.below⟩


/-! ### impl_element_times: function 65 -/
set_option maxHeartbeats 1000000 in
set_option maxRecDepth 100000 in
theorem impl_element_times.calls (x y : Nat) (w : World) (hx : x < BB) (hy : y < BB) :
    Calls Try.prog 65 #[.agg (arr .u64 (num x)), .agg (arr .u64 (num y))] w fun e w' => e = .returned (.agg (arr .u64 (num (x * y % PP)))) ∧ Below w.heap.size w w' := by
  have HT := Aside0.mk (fun W => impl_number_times.calls x y W hx hy)
  have HR := Aside0.mk (fun W => impl_wide_reduced.calls (x * y) W (Nat.mul_lt_mul'' hx hy))
  clear hx hy
  generalize x * y % PP = r at *
  generalize x * y = z at *
  have S := Aside0.mk ((((St.start w).push rfl 44 .u64 (num x)).push (World.size_alloc ..) 44 .u64 (num y)).push (by rw [World.size_alloc, World.size_alloc]; rfl) 44 .u64 z4)
  go_enter Try.func65, Try.ntmps65
  go_wp2_with (first
    | ((with_reducible refine gate_dst (N := 5) rfl ?_); refine ld_arr rfl 44 (.tmp 2) rfl w.heap.size rfl (S.out.blk 0 rfl) Try.underlying44 (m := 4) (by kernel_rfl) (num_length _) ?_)
    | ((with_reducible refine gate_dst (N := 6) rfl ?_); refine ld_arr rfl 44 (.tmp 3) rfl (w.heap.size + 1) rfl (S.out.blk 1 rfl) Try.underlying44 (m := 4) (by kernel_rfl) (num_length _) ?_)
    | ((with_reducible refine (HT.out _).mono ?_); rintro e w1 ⟨rfl, hb⟩; have S1 := Aside0.mk (S.out.step hb); clear hb)
    | ((with_reducible refine (HR.out _).mono ?_); rintro e w2 ⟨rfl, hb⟩; have S2 := Aside0.mk (S1.out.step hb); clear hb)
    | (refine st_arr rfl 44 (.tmp 4) (.tmp 8) rfl (w.heap.size + 2) (xs := num r) rfl rfl (S2.out.blk 2 rfl) (m := 4) (by kernel_rfl) (num_length _) (by rw [num_length]; rfl) ?_; intro w' h1 h2 h4 h3; have H1 := Aside0.mk h1; have S3 := Aside0.mk (S2.out.row 2 rfl h1 h2 h3); clear h1 h2 h3 h4))
  exact bodyPost_ret (results_cell_row Try.results65 _ _ (w.heap.size + 2) 44 _ (0, 0) _ rfl H1.out Try.underlying44 rfl (by rw [arr_size, num_length]; kernel_rfl)) rfl ⟨rfl, S3.out.below⟩


/-! ### impl_FieldMul: function 32 -/
def impl_FieldMul.f (l0 : List Int) (l1 : List Int) : Option (List Int × Int) := if okE l0 && okE l1 then some (limbs 256 32 (bval l0 * bval l1 % PP), 0) else none
set_option maxHeartbeats 1000000 in
set_option maxRecDepth 100000 in
theorem impl_FieldMul.calls (A0 : Option Addr) (c0 : Nat) (l0 : List Int) (A1 : Option Addr) (c1 : Nat) (l1 : List Int) (r1 : List Int) (r2 : Int) (w : World) (hr0 : Kd.C (Kd.int .u8) w A0 l0.length l0) (hc0 : l0.length ≤ c0) (hr1 : Kd.C (Kd.int .u8) w A1 l1.length l1) (hc1 : l1.length ≤ c1) (h : impl_FieldMul.f l0 l1 = some (r1, r2)) :
    Calls Try.prog 32 #[.slice A0 l0.length c0, .slice A1 l1.length c1] w fun e w' => ∃ v0_ : Value, e = .returned (.tuple #[v0_, .int .i64 r2]) ∧ Kd.R (Kd.int .u8) 5 w' w.heap.size (fun _ => True) v0_ r1 ∧ Below w.heap.size w w' := by
  unfold impl_FieldMul.f at h
  by_cases ho : (okE l0 && okE l1) = true
  · rw [if_pos ho] at h
    simp only [Option.some.injEq, Prod.mk.injEq] at h
    obtain ⟨rfl, rfl⟩ := h
    rw [Bool.and_eq_true] at ho
    obtain ⟨_, k0, e0, p0, _⟩ := okE_facts ho.1
    obtain ⟨_, k1, e1, p1, _⟩ := okE_facts ho.2
    have hPB : PP < BB := by decide
    have HC := Aside0.mk (fun t => elementsCode_two A0 c0 l0 A1 c1 l1 t w hr0 hc0 hr1 hc1 ho.1 ho.2)
    have HX := Aside0.mk (fun W (hb : Below w.heap.size w W) => impl_elementOf.calls A0 c0 l0 W (Kd.C_below hr0 hb) (by omega) k0)
    have HY := Aside0.mk (fun W (hb : Below w.heap.size w W) => impl_elementOf.calls A1 c1 l1 W (Kd.C_below hr1 hb) (by omega) k1)
    have HT := Aside0.mk (fun W => impl_element_times.calls (bval l0) (bval l1) W (Nat.lt_trans p0 hPB) (Nat.lt_trans p1 hPB))
    have HB := Aside0.mk (fun W => impl_element_bytes.calls (bval l0 * bval l1 % PP) W)
    clear ho k0 k1 p0 p1 hPB hr0 hc0 hr1 hc1 e0 e1
    generalize bval l0 * bval l1 % PP = r at *
    generalize bval l0 = x at *
    generalize bval l1 = y at *
    have B0 := Aside0.mk (fun t => below_alloc (Below.refl w.heap.size w) (.cells #[.slice A0 l0.length c0, .slice A1 l1.length c1] t))
    go_enter Try.func32, Try.ntmps32
    go_wp2_with (first
      | ((with_reducible refine (HC.out _).mono ?_); rintro e w1 ⟨rfl, hb⟩; have B1 := Aside0.mk (below_step (B0.out _) hb); clear hb)
      | ((with_reducible refine (HX.out _ B1.out).mono ?_); rintro e w2 ⟨rfl, hb⟩; have B2 := Aside0.mk (below_step B1.out hb); clear hb)
      | ((with_reducible refine (HY.out _ B2.out).mono ?_); rintro e w3 ⟨rfl, hb⟩; have B3 := Aside0.mk (below_step B2.out hb); clear hb)
      | ((with_reducible refine (HT.out _).mono ?_); rintro e w4 ⟨rfl, hb⟩; have B4 := Aside0.mk (below_step B3.out hb); clear hb)
      | ((with_reducible refine (HB.out _).mono ?_); rintro e w5 ⟨v, rfl, hR, hb⟩; have HR := Aside0.mk (Kd.R_lower hR (below_size B4.out)); have B5 := Aside0.mk (below_step B4.out hb); clear hb hR))
    go_ret2
    exact ⟨_, rfl, HR.out, B5.out⟩
  · rw [if_neg ho] at h; cases h


/-! ### spec_l00Source: function 70 -/
set_option maxHeartbeats 1000000 in
set_option maxRecDepth 100000 in
theorem l00Source.calls (A : Option Addr) (c : Nat) (code : List Int) (w : World) (hl : code.length < 1099511627776) :
    Calls Try.prog 70 #[.slice A code.length c] w fun e w' => e = .returned (.pointer (some ⟨w.heap.size, 0, none⟩)) ∧ w' = w.alloc (.cells #[.slice A code.length c, .int .i64 0, .int .i64 (sdN code 0)] 86) := by
  have HS := Aside0.mk (show (code.length : Int) % 1000 = sdN code 0 from rfl)
  have hr := sdN_range code 0
  have hr1 := hr.1
  have hr2 := hr.2
  clear hr
  rw [← HS.out] at hr1 hr2
  have q2 : (code.length : Int).tmod 1000 = sdN code 0 := by rw [Int.tmod_eq_emod_of_nonneg (by omega)]; rfl
  have q1 : (code.length : Int) % 1000 = sdN code 0 := rfl
  rw [q1] at hr1 hr2
  generalize sdN code 0 = s0 at *
  have wr_ : IntKind.i64.wrap s0 = s0 := by rw [IntKind.wrap_i64]; omega
  clear HS
  go_enter Try.func70, Try.ntmps70
  go_wp2
  go_ret
  exact ⟨rfl, rfl⟩


/-! ### spec_l05Carry: function 81 -/
set_option maxHeartbeats 400000 in
set_option maxRecDepth 100000 in
theorem spec_l05Carry.calls (xs : List Int) (w : World) (hb : Bd xs) (hl : xs.length = 16) :
    Calls Try.prog 81 #[.agg (arr .i64 xs)] w fun e w' => e = .returned (.agg (arr .i64 (carN xs 3))) ∧ Below w.heap.size w w' := by
  have HB := Aside0.mk hb
  have HL := Aside0.mk hl
  clear hb hl
  go_enter Try.func81, Try.ntmps81
  go_wp2
  go_loopg [3, 4, 5, 6] 3 (fun gg v3 _ _ _ wr => ∃ n : Nat, n ≤ 3 ∧ 3 - n ≤ gg ∧ v3 = .int .i64 n ∧ Aside0 (St w [⟨40, .i64, carN xs n⟩, ⟨40, .i64, z16⟩] wr))
  case atStart =>
    exact ⟨0, by omega, by omega, rfl, ⟨((St.start w).push rfl 40 .i64 xs).push (World.size_alloc ..) 40 .i64 z16⟩⟩
  case round =>
    obtain ⟨n, hn, hg, rfl, S⟩ := hrel
    by_cases hlt : n < 3
    · have hlti : (n : Int) < 3 := by omega
      have hbd := carN_bd xs HB.out HL.out n
      have EN := Aside0.mk (show carN xs (n + 1) = carR (carN xs n) from rfl)
      generalize carN xs n = ys at *
      have YB := Aside0.mk hbd.1
      have YL := Aside0.mk hbd.2
      clear hbd
      go_wp2
      go_loopg [4, 5, 6] 16 (fun gg2 v4 v5 _ wr2 => ∃ k : Nat, k ≤ 16 ∧ 16 - k ≤ gg2 ∧ v5 = .int .i64 k ∧ v4 = .int .i64 (carS ys k).2 ∧ Aside0 (St w [⟨40, .i64, (carS ys k).1⟩, ⟨40, .i64, z16⟩] wr2))
      case atStart => exact ⟨0, by omega, by omega, rfl, rfl, S⟩
      case round =>
        obtain ⟨k, hk, hg2, rfl, rfl, S2⟩ := hrel
        have hcb := carS_bd ys YB.out k
        have hkb := hcb.1 k
        by_cases hlt2 : k < 16
        · have hlti2 : (k : Int) < 16 := by omega
          have hc1 := S2.out.cell 0 rfl k (by have := YL.out; rw [carS_length]; omega)
          have hf1 := blk_frozen (S2.out.blk 0 rfl) k
          rw [Nat.add_zero] at hc1 hf1
          have P := Aside0.mk (S2.out.set 0 rfl k (((carS ys k).1.getD k 0 + (carS ys k).2) - ((carS ys k).1.getD k 0 + (carS ys k).2) / 65536 * 65536))
          have EQ := Aside0.mk (show carS ys (k + 1) = ((carS ys k).1.set k (((carS ys k).1.getD k 0 + (carS ys k).2) - ((carS ys k).1.getD k 0 + (carS ys k).2) / 65536 * 65536), ((carS ys k).1.getD k 0 + (carS ys k).2) / 65536) from rfl)
          have a1 := hkb.1
          have a2 := hkb.2
          have a3 := hcb.2.1
          have a4 := hcb.2.2
          clear hcb hkb
          generalize (carS ys k).1.getD k 0 = a at *
          generalize (carS ys k).2 = c at *
          have b1 : -4503737066323969 ≤ a + c := by omega
          have b2 : a + c ≤ 4503737066323969 := by omega
          have q1 : -68721573900 ≤ (a + c) / 65536 := by omega
          have q2 : (a + c) / 65536 ≤ 68721573900 := by omega
          go_wp2
          go_roundg (16 - (k + 1))
          case measure => omega
          case rel => refine ⟨k + 1, by omega, by omega, by go_num, ?_, by rw [EQ.out]; exact P⟩; rw [EQ.out]
        · obtain rfl : k = 16 := by omega
          have hneg : ¬ ((16 : Nat) : Int) < 16 := by omega
          have h0 := hcb.1 0
          have hc1 := S2.out.cell 0 rfl 0 (by have := YL.out; rw [carS_length]; omega)
          have hf1 := blk_frozen (S2.out.blk 0 rfl) 0
          rw [Nat.add_zero] at hc1 hf1
          have P := Aside0.mk (S2.out.set 0 rfl 0 ((carS ys 16).1.getD 0 0 + 38 * (carS ys 16).2))
          have EQ := Aside0.mk (show carR ys = (carS ys 16).1.set 0 ((carS ys 16).1.getD 0 0 + 38 * (carS ys 16).2) from rfl)
          have a1 := h0.1
          have a2 := h0.2
          have a3 := hcb.2.1
          have a4 := hcb.2.2
          clear hcb hkb h0
          generalize (carS ys 16).1.getD 0 0 = a at *
          generalize (carS ys 16).2 = c at *
          go_wp2
          go_roundg (3 - (n + 1))
          case measure => omega
          case rel => exact ⟨n + 1, by omega, by omega, by go_num, by rw [EN.out, EQ.out]; exact P⟩
    · obtain rfl : n = 3 := by omega
      have hneg : ¬ ((3 : Nat) : Int) < 3 := by omega
      have B0 := Aside0.mk (S.out.blk 0 rfl)
      have B1 := Aside0.mk (S.out.blk 1 rfl)
      have L := Aside0.mk (carN_bd xs HB.out HL.out 3).2
      go_wp2_with (first
        | ((with_reducible refine gate_dst (N := 34) rfl ?_); refine ld_arr rfl 40 (.tmp 1) rfl w.heap.size rfl B0.out Try.underlying40 (m := 16) (by kernel_rfl) L.out ?_)
        | (refine st_arr rfl 40 (.tmp 2) (.tmp 34) rfl (w.heap.size + 1) (xs := carN xs 3) rfl rfl B1.out (m := 16) (by kernel_rfl) L.out (by rw [L.out]; rfl) ?_; intro w' h1 h2 h4 h3; have H1 := Aside0.mk h1; have H3 := Aside0.mk h3; clear h1 h2 h3 h4))
      exact bodyPost_ret (results_cell_row Try.results81 _ _ (w.heap.size + 1) 40 _ (0, 0) _ rfl H1.out Try.underlying40 rfl (by rw [arr_size, L.out]; kernel_rfl)) rfl ⟨rfl, H3.out _ _ S.out.below (by omega)⟩


end Go.Proofs.Ytijeackkgcnbgaa.XH
