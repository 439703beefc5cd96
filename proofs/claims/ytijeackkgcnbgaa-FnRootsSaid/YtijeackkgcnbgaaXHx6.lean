-- Written by a program of this session (xp.py over the kit's printer, with functions proved by hand). Lean checks it.
import Derived.Test.YtijeackkgcnbgaaXHx0
import Derived.Test.YtijeackkgcnbgaaXHx3
import Derived.Test.YtijeackkgcnbgaaXHx4
namespace Go.Proofs.Ytijeackkgcnbgaa.XH
open Go.Proofs.Ytijeackkgcnbgaa.Limb Go.Proofs.Ytijeackkgcnbgaa.Arr Go.Proofs.Ytijeackkgcnbgaa.FldA Go.Proofs.Ytijeackkgcnbgaa.FldB Go.Proofs.Ytijeackkgcnbgaa.FldC Go.Proofs.Ytijeackkgcnbgaa.FldS Go.Proofs.Ytijeackkgcnbgaa.FldP Go.Proofs.Ytijeackkgcnbgaa.FldW Go.Proofs.Ytijeackkgcnbgaa.FldM Go.Proofs.Ytijeackkgcnbgaa.FldT Go.Proofs.Ytijeackkgcnbgaa.FldRoot Go.Proofs.Ytijeackkgcnbgaa.FldRoot2 Go.Proofs.Ytijeackkgcnbgaa.St Go.Proofs.Ytijeackkgcnbgaa.StOps Go.Proofs.Ytijeackkgcnbgaa.StMid Go.Proofs.Ytijeackkgcnbgaa.StEq Go.Proofs.Ytijeackkgcnbgaa.StIdx Go.Proofs.Ytijeackkgcnbgaa.StSrc
open Go.RowKit Go.Proofs.YtijeackkgcnbgaaW.PrintWords Go.Proofs.YtijeackkgcnbgaaW.PrintLast Go.Proofs.YtijeackkgcnbgaaW.PrintMore
attribute [local go_sem] max2_int min2_int max_two min_two max_three min_three max_four min_four   -- for this text's walks alone
set_option linter.unusedVariables false
set_option linter.unusedSimpArgs false

/-! ### spec_l05Mul: function 64 -/
set_option maxHeartbeats 1000000 in
set_option maxRecDepth 100000 in
theorem spec_l05Mul.calls (x y : Nat) (w : World) (hx : x < BB) (hy : y < BB) :
    Calls Try.prog 64 #[.agg (arr .i64 (fe x)), .agg (arr .i64 (fe y))] w fun e w' => ∃ c, c < BB ∧ c % PP = x * y % PP ∧ e = .returned (.agg (arr .i64 (fe c))) ∧ Below w.heap.size w w' := by
  obtain ⟨hbd, c, hc1, hc2, hc3⟩ := mul_fe x y hx hy
  have HC := Aside0.mk (fun W => spec_l05Carry.calls (mulT x y) W hbd (by unfold mulT; exact fldS_length _ _))
  rw [hc2] at HC
  refine Calls.mono (R := fun e w' => e = .returned (.agg (arr .i64 (fe c))) ∧ Below w.heap.size w w') ?_ (fun e w' h => ⟨c, hc1, hc3, h⟩)
  clear hc1 hc2 hc3 hx hy hbd
  have RX := Aside0.mk (fe_getD x)
  have RY := Aside0.mk (fe_getD y)
  have LX := Aside0.mk (fe_length x)
  have LY := Aside0.mk (fe_length y)
  have NW := Aside0.mk (mulW_nb x y)
  have NR := Aside0.mk (fun i k => mulR_nb x y i (mulW (fe x) (fe y) i) _ (mulW_nb x y i) k)
  have LW := Aside0.mk (mulW_length (fe x) (fe y))
  have LR := Aside0.mk (fun i k => (mulR_length (fe x) (fe y) (mulW (fe x) (fe y) i) i k).trans (mulW_length _ _ i))
  have SW := Aside0.mk (fun i => show mulW (fe x) (fe y) (i + 1) = mulR (fe x) (fe y) i (mulW (fe x) (fe y) i) 16 from by simp only [mulW])
  have SR := Aside0.mk (fun i k => show mulR (fe x) (fe y) i (mulW (fe x) (fe y) i) (k + 1) = (mulR (fe x) (fe y) i (mulW (fe x) (fe y) i) k).set (i + k) ((mulR (fe x) (fe y) i (mulW (fe x) (fe y) i) k).getD (i + k) 0 + (fe x).getD i 0 * (fe y).getD k 0) from rfl)
  have R0 := Aside0.mk (fun i => show mulR (fe x) (fe y) i (mulW (fe x) (fe y) i) 0 = mulW (fe x) (fe y) i from rfl)
  have W0 := Aside0.mk (show mulW (fe x) (fe y) 0 = List.replicate 32 0 from rfl)
  have HT := Aside0.mk (show mulT x y = fldS (mulW (fe x) (fe y) 16) 16 from rfl)
  generalize mulT x y = ts at *
  generalize hR : (fun i k => mulR (fe x) (fe y) i (mulW (fe x) (fe y) i) k) = R at *
  have HR : ∀ i k, mulR (fe x) (fe y) i (mulW (fe x) (fe y) i) k = R i k := fun i k => by rw [← hR]
  simp only [HR] at NR LR SW SR R0
  generalize mulW (fe x) (fe y) = M at *
  clear HR hR
  generalize fe x = xs at *
  generalize fe y = ys at *
  generalize hf : fe c = zs at *
  have LZ := Aside0.mk (hf ▸ fe_length c)
  clear hf
  have S0 := Aside0.mk (((((St.start w).push rfl 40 .i64 xs).push (World.size_alloc ..) 40 .i64 ys).push (by rw [World.size_alloc, World.size_alloc]; rfl) 40 .i64 z16).push (by rw [World.size_alloc, World.size_alloc, World.size_alloc]; rfl) 80 .i64 (List.replicate 32 0))
  go_enter Try.func64, Try.ntmps64
  go_wp2_with (refine st_arr rfl 80 (.tmp 5) (.tmp 10) rfl (w.heap.size + 3) (k := .i64) (xs := List.replicate 32 0) rfl rfl (S0.out.blk 3 rfl) (m := 32) (by kernel_rfl) (List.length_replicate ..) rfl ?_; intro w0 h1 h2 h4 h3; have S1 := Aside0.mk (S0.out.row 3 rfl h1 h2 h3); clear h1 h2 h3 h4 S0)
  go_loopg [6, 7] 16 (fun gg v6 _ wr => ∃ i : Nat, i ≤ 16 ∧ 16 - i ≤ gg ∧ v6 = .int .i64 i ∧ Aside0 (St w [⟨40, .i64, xs⟩, ⟨40, .i64, ys⟩, ⟨40, .i64, z16⟩, ⟨80, .i64, M i⟩] wr))
  case atStart =>
    refine ⟨0, by omega, by omega, rfl, ?_⟩
    rw [W0.out]
    exact S1
  case round =>
    obtain ⟨i, hi, hg, rfl, S⟩ := hrel
    by_cases hlt : i < 16
    · have hlti : (i : Int) < 16 := by omega
      have a := RX.out i
      have a1 := a.1
      have a2 := a.2
      clear a
      go_wp2
      go_loopg [7] 16 (fun gg2 v7 wr2 => ∃ k : Nat, k ≤ 16 ∧ 16 - k ≤ gg2 ∧ v7 = .int .i64 k ∧ Aside0 (St w [⟨40, .i64, xs⟩, ⟨40, .i64, ys⟩, ⟨40, .i64, z16⟩, ⟨80, .i64, R i k⟩] wr2))
      case atStart => exact ⟨0, by omega, by omega, rfl, by rw [R0.out]; exact S⟩
      case round =>
        obtain ⟨k, hk, hg2, rfl, S2⟩ := hrel
        by_cases hlt2 : k < 16
        · have hlti2 : (k : Int) < 16 := by omega
          have hc1 := S2.out.cell 3 rfl (i + k) (by rw [LR.out]; omega)
          have hf1 := blk_frozen (S2.out.blk 3 rfl) (i + k)
          have hc2 := S2.out.cell 0 rfl i (by rw [LX.out]; omega)
          have hc3 := S2.out.cell 1 rfl k (by rw [LY.out]; omega)
          rw [Nat.add_zero] at hc2
          have b := RY.out k
          have m := NR.out i k (i + k)
          have P := Aside0.mk ((S2.out.set 3 rfl (i + k) ((R i k).getD (i + k) 0 + xs.getD i 0 * ys.getD k 0)).drew)
          have EQ := Aside0.mk (SR.out i k)
          have p := prod_le _ _ ⟨a1, a2⟩ b
          have p1 := p.1
          have p2 := p.2
          have m1 := m.1
          have m2 : (R i k).getD (i + k) 0 ≤ 1168197847040 := by have := m.2; omega
          clear b m p
          obtain ⟨j, hj⟩ : ∃ j : Nat, j = i + k := ⟨_, rfl⟩
          have hj1 : (i : Int) + (k : Int) = (j : Int) := by omega
          have hj2 : (j : Int) < 32 := by omega
          rw [← hj] at hc1 hf1 P EQ m1 m2
          generalize (R i k).getD j 0 = v at *
          generalize xs.getD i 0 = a at *
          generalize ys.getD k 0 = b at *
          generalize hab : a * b = ab at *
          clear hj
          go_wp2
          go_region
          go_wp2
          go_roundg (16 - (k + 1))
          case measure => omega
          case rel => exact ⟨k + 1, by omega, by omega, by go_num, by rw [EQ.out]; exact P⟩
        · have hk16 : k = 16 := by omega
          subst hk16
          have hneg : ¬ ((16 : Nat) : Int) < 16 := by omega
          go_wp2
          go_roundg (16 - (i + 1))
          case measure => omega
          case rel => exact ⟨i + 1, by omega, by omega, by go_num, by rw [SW.out]; exact S2⟩
    · have hi16 : i = 16 := by omega
      subst hi16
      have hneg : ¬ ((16 : Nat) : Int) < 16 := by omega
      obtain ⟨V0, e0⟩ : ∃ V0, V0 = wr := ⟨_, rfl⟩
      subst e0
      have SZ := Aside0.mk S.out.size
      have LM := Aside0.mk (LW.out 16)
      have NM := Aside0.mk (NW.out 16)
      generalize M 16 = W at *
      have LF := Aside0.mk (fun k => fldS_length W k)
      have SF := Aside0.mk (fun k => show fldS W (k + 1) = (fldS W k).set k (W.getD k 0 + 38 * W.getD (k + 16) 0) from rfl)
      have F0 := Aside0.mk (show fldS W 0 = List.replicate 16 0 from rfl)
      generalize fldS W = F at *
      go_wp2
      go_loopg [9] 16 (fun gg2 v9 wr2 => ∃ k : Nat, k ≤ 16 ∧ 16 - k ≤ gg2 ∧ v9 = .int .i64 k ∧ Aside0 (St w [⟨40, .i64, xs⟩, ⟨40, .i64, ys⟩, ⟨40, .i64, z16⟩, ⟨80, .i64, W⟩] wr2) ∧ Aside0 (wr2.heap[V0.heap.size]? = some (.cells (arr .i64 (F k)) 40 (0, 0))))
      case atStart =>
        refine ⟨0, by omega, by omega, rfl, ⟨S.out.alloc (.cells (arr .i64 z16) 40)⟩, ?_⟩
        rw [F0.out]
        exact ⟨blk_new V0 (.cells (arr .i64 z16) 40)⟩
      case round =>
        obtain ⟨k, hk, hg2, rfl, S2, G⟩ := hrel
        by_cases hlt2 : k < 16
        · have hlti2 : (k : Int) < 16 := by omega
          obtain ⟨j, hj⟩ : ∃ j : Nat, j = k + 16 := ⟨_, rfl⟩
          have hj1 : (k : Int) + 16 = (j : Int) := by omega
          have hj2 : (j : Int) < 32 := by omega
          have hk2 : (k : Int) < 32 := by omega
          have hc1 := S2.out.cell 3 rfl k (by rw [LM.out]; omega)
          have hc2 := S2.out.cell 3 rfl j (by rw [LM.out]; omega)
          have hc3 := blk_get G.out k (by rw [LF.out]; omega)
          have hf3 := blk_frozen G.out k
          have n1 := NM.out k
          have n2 := NM.out j
          have n3 := n1.1
          have n4 : W.getD k 0 ≤ 1099478073600 := by have := n1.2; omega
          have n5 := n2.1
          have n6 : W.getD j 0 ≤ 1099478073600 := by have := n2.2; omega
          have P := Aside0.mk ((S2.out.far V0.heap.size SZ.out k (.int .i64 (W.getD k 0 + 38 * W.getD j 0))).drew)
          have PG := Aside0.mk (blk_drew (blk_upd G.out k (W.getD k 0 + 38 * W.getD j 0)))
          have EQ := Aside0.mk (SF.out k)
          rw [← hj] at EQ
          clear n1 n2 hj
          generalize W.getD k 0 = a at *
          generalize W.getD j 0 = b at *
          go_wp2
          go_region
          go_wp2
          go_roundg (16 - (k + 1))
          case measure => omega
          case rel => exact ⟨k + 1, by omega, by omega, by go_num, P, by rw [EQ.out]; exact PG⟩
        · have hk16 : k = 16 := by omega
          subst hk16
          have hneg : ¬ ((16 : Nat) : Int) < 16 := by omega
          rw [← HT.out] at G
          have LT : Aside0 (ts.length = 16) := ⟨by rw [HT.out, LF.out]⟩
          go_wp2_with (first
            | ((with_reducible refine gate_dst (N := 49) rfl ?_); refine ld_arr rfl 40 (.tmp 8) rfl V0.heap.size rfl G.out Try.underlying40 (m := 16) (by kernel_rfl) LT.out ?_)
            | ((with_reducible refine (HC.out _).mono ?_); rintro e w1 ⟨rfl, hb⟩; have S3 := Aside0.mk (S2.out.step hb); clear hb)
            | (refine st_arr rfl 40 (.tmp 4) (.tmp 50) rfl (w.heap.size + 2) (xs := zs) rfl rfl (S3.out.blk 2 rfl) (m := 16) (by kernel_rfl) LZ.out (by rw [LZ.out]; rfl) ?_; intro w' h1 h2 h4 h3; have H1 := Aside0.mk h1; have S4 := Aside0.mk (S3.out.row 2 rfl h1 h2 h3); clear h1 h2 h3 h4))
          exact bodyPost_ret (results_cell_row Try.results64 _ _ (w.heap.size + 2) 40 _ (0, 0) _ rfl H1.out Try.underlying40 rfl (by rw [arr_size, LZ.out]; kernel_rfl)) rfl ⟨rfl, S4.out.below⟩


/-! ### spec_l05Same: function 93 -/
set_option maxHeartbeats 1000000 in
set_option maxRecDepth 100000 in
theorem spec_l05Same.calls (x y : Nat) (w : World) (hx : x < BB) (hy : y < BB) :
    Calls Try.prog 93 #[.agg (arr .i64 (fe x)), .agg (arr .i64 (fe y))] w fun e w' => e = .returned (.bool (decide (x % PP = y % PP))) ∧ Below w.heap.size w w' := by
  rw [same_str _ _ (Nat.mod_lt x PP_pos) (Nat.mod_lt y PP_pos)]
  have HX := Aside0.mk (fun W => bytes_fe x W hx)
  have HY := Aside0.mk (fun W => bytes_fe y W hy)
  clear hx hy
  generalize limbs 256 32 (x % PP) = la at *
  generalize limbs 256 32 (y % PP) = lb at *
  obtain ⟨s1, hs1⟩ : ∃ s1, s1 = strOfNums la := ⟨_, rfl⟩
  obtain ⟨s2, hs2⟩ : ∃ s2, s2 = strOfNums lb := ⟨_, rfl⟩
  rw [← hs1, ← hs2]
  have HS1 := Aside0.mk hs1
  have HS2 := Aside0.mk hs2
  clear hs1 hs2
  have S := Aside0.mk (((St.start w).push rfl 40 .i64 (fe x)).push (World.size_alloc ..) 40 .i64 (fe y))
  go_enter Try.func93, Try.ntmps93
  go_wp2
  refine abs_world (bs := [⟨40, .i64, fe x⟩, ⟨40, .i64, fe y⟩]) S.out ?_
  clear S
  intro W0 hS
  have T0 := Aside0.mk hS.drew
  clear hS
  refine start_ (n := 8) (S := fun w' => St w [⟨40, .i64, fe x⟩, ⟨40, .i64, fe y⟩] w') (ds := []) #[false, false, false, false, false, false, false, false] (by kernel_rfl) rfl rfl (T0.out) (fun hHeld => ?_)
  refine take_ (i := 0) (N := some 5) (v := ?_) (a' := ?_) #[true, false, false, false, false, false, false, false] rfl rfl (by kernel_rfl) (fun _ _ _ h => h) (Or.inl ⟨by rfl, ?_⟩) hHeld ?_ ?_
  rotate_left
  · intro w' s0
    refine (run_ld 40 (.tmp 2) (by rfl) w.heap.size (by rfl) (s0.blk 0 rfl) Try.underlying40 (m := 16) (by kernel_rfl) (fe_length _)).trans ?_; with_reducible rfl
  rotate_left
  · simp only [Act.put, OpenRow.s1, OpenRow.s2, OpenRow.s3, i64_w, i32_w]; rfl
  refine take_ (i := 3) (N := some 8) (v := ?_) (a' := ?_) #[true, false, false, true, false, false, false, false] rfl rfl (by kernel_rfl) (fun _ _ _ h => h) (Or.inl ⟨by rfl, ?_⟩) hHeld ?_ ?_
  rotate_left
  · intro w' s0
    refine (run_ld 40 (.tmp 3) (by rfl) (w.heap.size + 1) (by rfl) (s0.blk 1 rfl) Try.underlying40 (m := 16) (by kernel_rfl) (fe_length _)).trans ?_; with_reducible rfl
  rotate_left
  · simp only [Act.put, OpenRow.s1, OpenRow.s2, OpenRow.s3, i64_w, i32_w]; rfl
  refine one_ (i := 1) (N := some 6) #[true, true, false, true, false, false, false, false] rfl rfl (by kernel_rfl) (by decide) (fun K hK => ?_)
  refine goes_ Try.func46 (by kernel_rfl) rfl #[.agg (arr .i64 (fe x))] (by rfl) rfl rfl (by simp only [List.map_toArray, List.map_cons, List.map_nil] <;> rfl) ?_
  with_reducible refine (HX.out _).mono ?_
  rintro e w3 ⟨v1, rfl, hR, hb⟩
  refine ⟨_, rfl, ?_⟩
  have T := Aside0.mk (T0.out.step hb)
  have Ra := Aside0.mk hR
  clear hb hR
  refine hK.out _ _ (T.out) (fun hHeld => ?_)
  clear hK K
  refine norm_ (a' := ?_) ?_ ?_
  rotate_left
  · show Act.put _ (some 6) _ = _
    simp only [Act.put, OpenRow.s1, OpenRow.s2, OpenRow.s3, i64_w, i32_w]
    rfl
  refine join_ (σ := Value) 2 #[true, true, true, true, true, true, false, false] (fun s_ => [(7, .string s1), (9, s_), (10, .string s2)]) (fun s_ w' => (St w [⟨40, .i64, fe x⟩, ⟨40, .i64, fe y⟩] w')) ?_ ?_
  rotate_left
  · intro hCont
    refine two_ (i := 2) (j := 4) (Ni := some 7) (Nj := some 9) #[true, true, true, true, false, false, false, false] #[true, true, false, true, true, false, false, false] rfl rfl rfl rfl (by kernel_rfl) (by decide) (by decide) (fun K hK => ?_) (fun K hK => ?_)
    · skip
      have hcv := own_string (P := Try.prog) Try.underlying22 Try.underlying5 Try.underlying9 (Kd.own_of_R Ra.out)
      rw [← HS1.out] at hcv
      refine value_ (w1 := ?_) (v := ?_) (by rfl) rfl ?_ ?_
      rotate_left 2
      · go_simp
        constructor
        · rfl
        · rfl
      clear hcv
      have T_2 := T
      have Ra_2 := Ra
      refine hK.out _ _ (T_2.out) (fun hHeld => ?_)
      clear hK K
      refine norm_ (a' := ?_) ?_ ?_
      rotate_left
      · show Act.put _ (some 7) _ = _
        simp only [Act.put, OpenRow.s1, OpenRow.s2, OpenRow.s3, i64_w, i32_w]
        rfl
      refine one_ (i := 4) (N := some 9) #[true, true, true, true, true, false, false, false] rfl rfl (by kernel_rfl) (by decide) (fun K hK => ?_)
      refine goes_ Try.func46 (by kernel_rfl) rfl #[.agg (arr .i64 (fe y))] (by rfl) rfl rfl (by simp only [List.map_toArray, List.map_cons, List.map_nil] <;> rfl) ?_
      with_reducible refine (HY.out _).mono ?_
      rintro e w3 ⟨v2, rfl, hR, hb⟩
      refine ⟨_, rfl, ?_⟩
      have T_2_4 := Aside0.mk (T_2.out.step hb)
      have Ra_2_4 := Aside0.mk (Kd.R_below Ra_2.out hb)
      have Rb_2_4 := Aside0.mk hR
      clear hb hR
      refine hK.out _ _ (T_2_4.out) (fun hHeld => ?_)
      clear hK K
      refine norm_ (a' := ?_) ?_ ?_
      rotate_left
      · show Act.put _ (some 9) _ = _
        simp only [Act.put, OpenRow.s1, OpenRow.s2, OpenRow.s3, i64_w, i32_w]
        rfl
      refine one_ (i := 5) (N := some 10) #[true, true, true, true, true, true, false, false] rfl rfl (by kernel_rfl) (by decide) (fun K hK => ?_)
      have hcv := own_string (P := Try.prog) Try.underlying22 Try.underlying5 Try.underlying9 (Kd.own_of_R Rb_2_4.out)
      rw [← HS2.out] at hcv
      refine value_ (w1 := ?_) (v := ?_) (by rfl) rfl ?_ ?_
      rotate_left 2
      · go_simp
        constructor
        · rfl
        · rfl
      clear hcv
      have T_2_4_5 := T_2_4
      have Ra_2_4_5 := Ra_2_4
      have Rb_2_4_5 := Rb_2_4
      refine hK.out _ _ (T_2_4_5.out) (fun hHeld => ?_)
      clear hK K
      refine norm_ (a' := ?_) ?_ ?_
      rotate_left
      · show Act.put _ (some 10) _ = _
        simp only [Act.put, OpenRow.s1, OpenRow.s2, OpenRow.s3, i64_w, i32_w]
        rfl
      exact norm_ (by simp only [putAll, Act.put, List.setIfInBounds_toArray, List.set_cons_zero, List.set_cons_succ] <;> rfl) (hCont v2 _ T_2_4_5.out)
    · skip
      refine goes_ Try.func46 (by kernel_rfl) rfl #[.agg (arr .i64 (fe y))] (by rfl) rfl rfl (by simp only [List.map_toArray, List.map_cons, List.map_nil] <;> rfl) ?_
      with_reducible refine (HY.out _).mono ?_
      rintro e w3 ⟨v2, rfl, hR, hb⟩
      refine ⟨_, rfl, ?_⟩
      have T_4 := Aside0.mk (T.out.step hb)
      have Ra_4 := Aside0.mk (Kd.R_below Ra.out hb)
      have Rb_4 := Aside0.mk hR
      clear hb hR
      refine hK.out _ _ (T_4.out) (fun hHeld => ?_)
      clear hK K
      refine norm_ (a' := ?_) ?_ ?_
      rotate_left
      · show Act.put _ (some 9) _ = _
        simp only [Act.put, OpenRow.s1, OpenRow.s2, OpenRow.s3, i64_w, i32_w]
        rfl
      refine two_ (i := 2) (j := 5) (Ni := some 7) (Nj := some 10) #[true, true, true, true, true, false, false, false] #[true, true, false, true, true, true, false, false] rfl rfl rfl rfl (by kernel_rfl) (by decide) (by decide) (fun K hK => ?_) (fun K hK => ?_)
      · skip
        have hcv := own_string (P := Try.prog) Try.underlying22 Try.underlying5 Try.underlying9 (Kd.own_of_R Ra_4.out)
        rw [← HS1.out] at hcv
        refine value_ (w1 := ?_) (v := ?_) (by rfl) rfl ?_ ?_
        rotate_left 2
        · go_simp
          constructor
          · rfl
          · rfl
        clear hcv
        have T_4_2 := T_4
        have Ra_4_2 := Ra_4
        have Rb_4_2 := Rb_4
        refine hK.out _ _ (T_4_2.out) (fun hHeld => ?_)
        clear hK K
        refine norm_ (a' := ?_) ?_ ?_
        rotate_left
        · show Act.put _ (some 7) _ = _
          simp only [Act.put, OpenRow.s1, OpenRow.s2, OpenRow.s3, i64_w, i32_w]
          rfl
        refine one_ (i := 5) (N := some 10) #[true, true, true, true, true, true, false, false] rfl rfl (by kernel_rfl) (by decide) (fun K hK => ?_)
        have hcv := own_string (P := Try.prog) Try.underlying22 Try.underlying5 Try.underlying9 (Kd.own_of_R Rb_4_2.out)
        rw [← HS2.out] at hcv
        refine value_ (w1 := ?_) (v := ?_) (by rfl) rfl ?_ ?_
        rotate_left 2
        · go_simp
          constructor
          · rfl
          · rfl
        clear hcv
        have T_4_2_5 := T_4_2
        have Ra_4_2_5 := Ra_4_2
        have Rb_4_2_5 := Rb_4_2
        refine hK.out _ _ (T_4_2_5.out) (fun hHeld => ?_)
        clear hK K
        refine norm_ (a' := ?_) ?_ ?_
        rotate_left
        · show Act.put _ (some 10) _ = _
          simp only [Act.put, OpenRow.s1, OpenRow.s2, OpenRow.s3, i64_w, i32_w]
          rfl
        exact norm_ (by simp only [putAll, Act.put, List.setIfInBounds_toArray, List.set_cons_zero, List.set_cons_succ] <;> rfl) (hCont v2 _ T_4_2_5.out)
      · skip
        have hcv := own_string (P := Try.prog) Try.underlying22 Try.underlying5 Try.underlying9 (Kd.own_of_R Rb_4.out)
        rw [← HS2.out] at hcv
        refine value_ (w1 := ?_) (v := ?_) (by rfl) rfl ?_ ?_
        rotate_left 2
        · go_simp
          constructor
          · rfl
          · rfl
        clear hcv
        have T_4_5 := T_4
        have Ra_4_5 := Ra_4
        have Rb_4_5 := Rb_4
        refine hK.out _ _ (T_4_5.out) (fun hHeld => ?_)
        clear hK K
        refine norm_ (a' := ?_) ?_ ?_
        rotate_left
        · show Act.put _ (some 10) _ = _
          simp only [Act.put, OpenRow.s1, OpenRow.s2, OpenRow.s3, i64_w, i32_w]
          rfl
        refine one_ (i := 2) (N := some 7) #[true, true, true, true, true, true, false, false] rfl rfl (by kernel_rfl) (by decide) (fun K hK => ?_)
        have hcv := own_string (P := Try.prog) Try.underlying22 Try.underlying5 Try.underlying9 (Kd.own_of_R Ra_4_5.out)
        rw [← HS1.out] at hcv
        refine value_ (w1 := ?_) (v := ?_) (by rfl) rfl ?_ ?_
        rotate_left 2
        · go_simp
          constructor
          · rfl
          · rfl
        clear hcv
        have T_4_5_2 := T_4_5
        have Ra_4_5_2 := Ra_4_5
        have Rb_4_5_2 := Rb_4_5
        refine hK.out _ _ (T_4_5_2.out) (fun hHeld => ?_)
        clear hK K
        refine norm_ (a' := ?_) ?_ ?_
        rotate_left
        · show Act.put _ (some 7) _ = _
          simp only [Act.put, OpenRow.s1, OpenRow.s2, OpenRow.s3, i64_w, i32_w]
          rfl
        exact norm_ (by simp only [putAll, Act.put, List.setIfInBounds_toArray, List.set_cons_zero, List.set_cons_succ] <;> rfl) (hCont v2 _ T_4_5_2.out)
  rintro v2 w9 hHeld
  have T9 := Aside0.mk hHeld
  refine norm_ (a' := ?_) ?_ ?_
  rotate_left
  · simp only [putAll, Act.put, List.setIfInBounds_toArray, List.set_cons_zero, List.set_cons_succ]
    rfl
  refine pure_ (i := 6) (N := some 11) (v := ?_) (a' := ?_) #[true, true, true, true, true, true, true, false] rfl rfl (by kernel_rfl) (fun _ _ _ h => h) (Or.inl ⟨by rfl, ?_⟩) ?_ ?_
  rotate_left
  · intro w'; go_simp; with_reducible rfl
  rotate_left
  · simp only [Act.put, OpenRow.s1, OpenRow.s2, OpenRow.s3, i64_w, i32_w]; rfl
  refine pure_ (i := 7) (N := some 4) (v := ?_) (a' := ?_) #[true, true, true, true, true, true, true, true] rfl rfl (by kernel_rfl) (fun _ _ _ h => h) (Or.inl ⟨by rfl, ?_⟩) ?_ ?_
  rotate_left
  · intro w'; go_simp; with_reducible rfl
  rotate_left
  · simp only [Act.put, OpenRow.s1, OpenRow.s2, OpenRow.s3, i64_w, i32_w]; rfl
  refine done_ (by kernel_rfl) ?_

  go_wp2
  go_ret
  exact ⟨rfl, T9.out.below⟩


/-! ### spec_l05Pow: function 94 -/
theorem and1i (n : Int) : bits .and .i64 n 1 = n % 2 := by
  show IntKind.i64.wrap ((BitVec.ofInt 64 n &&& BitVec.ofInt 64 1).toNat : Int) = _
  rw [BitVec.toNat_and, show (BitVec.ofInt 64 1).toNat = 1 from by decide, Nat.and_one_is_mod, BitVec.toNat_ofInt]
  simp [IntKind.wrap, IntKind.bits, IntKind.signed]
  omega
set_option maxHeartbeats 4000000 in
set_option maxRecDepth 100000 in
theorem spec_l05Pow.calls (a low high : Nat) (w : World) (ha : a < BB) (hlo : low < 256) (hhi : high < 256) :
    Calls Try.prog 94 #[.agg (arr .i64 (fe a)), .int .i64 (low : Int), .int .i64 (high : Int)] w fun e w' => ∃ c, c < BB ∧ c % PP = a ^ (expN low high) % PP ∧ e = .returned (.agg (arr .i64 (fe c))) ∧ Below w.heap.size w w' := by
  obtain ⟨E, hE⟩ : ∃ E, E = expN low high := ⟨_, rfl⟩
  have HX := Aside0.mk (fun i k hi hk => exp_bit low high i k hlo hhi hi hk)
  have hE2 := expN_lt low high hlo hhi
  rw [← hE] at HX hE2 ⊢
  have H0 := Aside0.mk (show a ^ (E / 2 ^ 256) % PP = 1 % PP by rw [Nat.div_eq_of_lt hE2, Nat.pow_zero])
  have HA := Aside0.mk ha
  have HS1 := Aside0.mk (fun W => (show Calls Try.prog 89 #[.int .i64 1] W _ from spec_l05Small.calls 1 W (by decide)))
  clear hE hE2 ha hlo hhi
  have S := Aside0.mk (((St.start w).push rfl 40 .i64 (fe a)).push (World.size_alloc ..) 40 .i64 z16)
  go_enter Try.func94, Try.ntmps94
  go_wp2_with (first
    | ((with_reducible refine (HS1.out _).mono ?_); rintro e w1 ⟨rfl, hb⟩; have S1 := Aside0.mk (S.out.step hb); clear hb)
    | (refine st_arr rfl 40 (.tmp 7) (.tmp 11) rfl w1.heap.size (xs := fe 1) rfl rfl (blk_new w1 (.cells (arr .i64 z16) 40)) (m := 16) (by kernel_rfl) (fe_length _) (by rw [fe_length]; rfl) ?_; intro w2 h1 h2 h4 h3; have G2 := Aside0.mk h1; have S2 := Aside0.mk (St.other (S1.out.alloc (.cells (arr .i64 z16) 40)) h2 h3 S1.out.size); clear h1 h2 h3 h4))
  have HG := Aside0.mk S1.out.size
  generalize w1.heap.size = g at *
  go_loopg [8] 33 (fun gg s8 wr => ∃ k : Nat, k ≤ 32 ∧ k ≤ gg ∧ s8 = .int .i64 ((k : Int) - 1) ∧ ∃ c : Nat, c < BB ∧ c % PP = a ^ (E / 2 ^ (8 * k)) % PP ∧ Aside0 (St w [⟨40, .i64, fe a⟩, ⟨40, .i64, z16⟩] wr) ∧ Aside0 (wr.heap[g]? = some (.cells (arr .i64 (fe c)) 40 (0, 0))))
  case atStart => exact ⟨32, Nat.le_refl _, by omega, rfl, 1, by decide, by rw [← H0.out], S2, G2⟩
  case round =>
    clear S2 G2 S1 S
    obtain ⟨k, hk, hg, rfl, c, hc, hcm, S2, G2⟩ := hrel
    rcases Nat.eq_zero_or_pos k with h0 | h0
    · subst h0
      have e0 : ((0 : Nat) : Int) - 1 = -1 := rfl
      rw [e0]
      rw [Nat.mul_zero, Nat.pow_zero, Nat.div_one] at hcm
      go_wp2_with (first
        | ((with_reducible refine gate_dst (N := 38) rfl ?_); refine ld_arr rfl 40 (.tmp 7) rfl g rfl G2.out Try.underlying40 (m := 16) (by kernel_rfl) (fe_length _) ?_)
        | (refine st_arr rfl 40 (.tmp 6) (.tmp 38) rfl (w.heap.size + 1) (xs := fe c) rfl rfl (S2.out.blk 1 rfl) (m := 16) (by kernel_rfl) (fe_length _) (by rw [fe_length]; rfl) ?_; intro w' h1 h2 h4 h3; have H1 := Aside0.mk h1; have S3 := Aside0.mk (S2.out.row 1 rfl h1 h2 h3); clear h1 h2 h3 h4))
      exact bodyPost_ret (results_cell_row Try.results94 _ _ (w.heap.size + 1) 40 _ (0, 0) _ rfl H1.out Try.underlying40 rfl (by rw [arr_size, fe_length]; kernel_rfl)) rfl ⟨c, hc, hcm, rfl, S3.out.below⟩
    · obtain ⟨i, rfl⟩ : ∃ i, k = i + 1 := ⟨k - 1, by omega⟩
      have e0 : (((i + 1 : Nat)) : Int) - 1 = (i : Int) := by omega
      rw [e0]
      have hi0 : (i : Int) ≥ 0 := by omega
      have HEX := Aside0.mk (show True from trivial)
      have HEB0 := Aside0.mk (fun k hk => HX.out i k (by omega) hk)
      clear e0
      rcases Nat.eq_zero_or_pos i with hz | hz
      · have z0 : (i : Int) = 0 := by omega
        have z1 : ¬ (i : Int) = 31 := by omega
        have b0 := z0
        have b1 := z1
        have HEB := Aside0.mk (fun k (hk : k < 8) => show E / 2 ^ (8 * i + k) % 2 = low / 2 ^ k % 2 by rw [HEB0.out k hk, expB, if_pos hz])
        clear HEB0 hz
        have hbits : ∀ k : Nat, k < 8 → bits .and .i64 ((low : Int) / 2 ^ k) 1 = ((E / 2 ^ (8 * i + k) % 2 : Nat) : Int) := fun k hk => by
          rw [HEB.out k hk, and1i]
          simp
        have HBT := Aside0.mk hbits
        clear hbits HEX HEB
        go_wp2
        clear z0 z1 b0 b1
        go_loopg [10] 9 (fun gg2 s10 wr2 => ∃ k2 : Nat, k2 ≤ 8 ∧ k2 ≤ gg2 ∧ s10 = .int .i64 ((k2 : Int) - 1) ∧ ∃ c : Nat, c < BB ∧ c % PP = a ^ (E / 2 ^ (8 * i + k2)) % PP ∧ Aside0 (St w [⟨40, .i64, fe a⟩, ⟨40, .i64, z16⟩] wr2) ∧ Aside0 (wr2.heap[g]? = some (.cells (arr .i64 (fe c)) 40 (0, 0))))
        case atStart => exact ⟨8, Nat.le_refl _, by omega, rfl, c, hc, by rw [hcm, show 8 * (i + 1) = 8 * i + 8 from by omega], S2, G2⟩
        case round =>
          obtain ⟨k2, hk2, hg2, rfl, c, hc, hcm, S3, G3⟩ := hrel
          rcases Nat.eq_zero_or_pos k2 with h0 | h0
          · subst h0
            have e1 : ((0 : Nat) : Int) - 1 = -1 := rfl
            rw [e1]
            rw [Nat.add_zero] at hcm
            go_wp2
            go_roundg i
            case measure => omega
            case rel => exact ⟨i, by omega, Nat.le_refl _, by go_num, c, hc, hcm, S3, G3⟩
          · obtain ⟨k, rfl⟩ : ∃ k, k2 = k + 1 := ⟨k2 - 1, by omega⟩
            have e1 : (((k + 1 : Nat)) : Int) - 1 = (k : Int) := by omega
            rw [e1]
            have k0 : (k : Int) ≥ 0 := by omega
            have k8 : (k : Int) < 8 := by omega
            have k8n : k < 8 := by omega
            have k64 : min k 64 = k := by omega
            have wk : IntKind.u64.wrap (k : Int) = (k : Int) := by rw [IntKind.wrap_u64]; omega
            have hbit := HBT.out k k8n
            have hcm1 : c % PP = a ^ (E / 2 ^ (8 * i + k + 1)) % PP := hcm
            clear e1
            rcases Nat.mod_two_eq_zero_or_one (E / 2 ^ (8 * i + k)) with hb0 | hb0
            · have HPW := Aside0.mk (pow_sq a E (8 * i + k) c hb0 hcm1)
              rw [hb0] at hbit
              have hbit0 : bits .and .i64 ((low : Int) / 2 ^ k) 1 = 0 := hbit
              clear hbit hb0 hcm hcm1
              go_wp2_with (first
                | ((with_reducible refine gate_dst (N := 26) rfl ?_); refine ld_arr rfl 40 (.tmp 7) rfl g rfl G3.out Try.underlying40 (m := 16) (by kernel_rfl) (fe_length _) ?_)
                | ((with_reducible refine gate_dst (N := 27) rfl ?_); refine ld_arr rfl 40 (.tmp 7) rfl g rfl G3.out Try.underlying40 (m := 16) (by kernel_rfl) (fe_length _) ?_)
                | ((with_reducible refine (spec_l05Mul.calls c c _ hc hc).mono ?_); rintro e w4 ⟨c2, hc2, hm2, rfl, hb⟩; have S4 := Aside0.mk (S3.out.step hb); have G4 := Aside0.mk (blk_below G3.out hb); clear hb)
                | (refine st_arr rfl 40 (.tmp 7) (.tmp 28) rfl g (xs := fe c2) rfl rfl G4.out (m := 16) (by kernel_rfl) (fe_length _) (by rw [fe_length, fe_length]) ?_; intro w5 h1 h2 h4 h3; have G5 := Aside0.mk h1; have S5 := Aside0.mk (St.other S4.out h2 h3 HG.out); clear h1 h2 h3 h4))
              go_roundg k
              case measure => omega
              case rel => exact ⟨k, by omega, Nat.le_refl _, by go_num, c2, hc2, by rw [hm2, HPW.out], S5, G5⟩
            · have HPW := Aside0.mk (fun y hy => pow_sq1 a E (8 * i + k) c hb0 hcm1 y hy)
              rw [hb0] at hbit
              have hbit0 : bits .and .i64 ((low : Int) / 2 ^ k) 1 = 1 := hbit
              clear hbit hb0 hcm hcm1
              go_wp2_with (first
                | ((with_reducible refine gate_dst (N := 26) rfl ?_); refine ld_arr rfl 40 (.tmp 7) rfl g rfl G3.out Try.underlying40 (m := 16) (by kernel_rfl) (fe_length _) ?_)
                | ((with_reducible refine gate_dst (N := 27) rfl ?_); refine ld_arr rfl 40 (.tmp 7) rfl g rfl G3.out Try.underlying40 (m := 16) (by kernel_rfl) (fe_length _) ?_)
                | ((with_reducible refine gate_dst (N := 35) rfl ?_); refine ld_arr rfl 40 (.tmp 7) rfl g rfl G5.out Try.underlying40 (m := 16) (by kernel_rfl) (fe_length _) ?_)
                | ((with_reducible refine gate_dst (N := 36) rfl ?_); refine ld_arr rfl 40 (.tmp 3) rfl w.heap.size rfl (S5.out.blk 0 rfl) Try.underlying40 (m := 16) (by kernel_rfl) (fe_length _) ?_)
                | ((with_reducible refine (spec_l05Mul.calls c c _ hc hc).mono ?_); rintro e w4 ⟨c2, hc2, hm2, rfl, hb⟩; have S4 := Aside0.mk (S3.out.step hb); have G4 := Aside0.mk (blk_below G3.out hb); clear hb)
                | (refine st_arr rfl 40 (.tmp 7) (.tmp 28) rfl g (xs := fe c2) rfl rfl G4.out (m := 16) (by kernel_rfl) (fe_length _) (by rw [fe_length, fe_length]) ?_; intro w5 h1 h2 h4 h3; have G5 := Aside0.mk h1; have S5 := Aside0.mk (St.other S4.out h2 h3 HG.out); clear h1 h2 h3 h4)
                | ((with_reducible refine (spec_l05Mul.calls c2 a _ hc2 HA.out).mono ?_); rintro e w6 ⟨c3, hc3, hm3, rfl, hb⟩; have S6 := Aside0.mk (S5.out.step hb); have G6 := Aside0.mk (blk_below G5.out hb); clear hb)
                | (refine st_arr rfl 40 (.tmp 7) (.tmp 37) rfl g (xs := fe c3) rfl rfl G6.out (m := 16) (by kernel_rfl) (fe_length _) (by rw [fe_length, fe_length]) ?_; intro w7 h1 h2 h4 h3; have G7 := Aside0.mk h1; have S7 := Aside0.mk (St.other S6.out h2 h3 HG.out); clear h1 h2 h3 h4))
              go_roundg k
              case measure => omega
              case rel => exact ⟨k, by omega, Nat.le_refl _, by go_num, c3, hc3, by rw [hm3, HPW.out c2 hm2], S7, G7⟩
      · have z0 : ¬ (i : Int) = 0 := by omega
        by_cases h31 : i = 31
        · have z1 : (i : Int) = 31 := by omega
          have b0 := z0
          have b1 := z1
          have HEB := Aside0.mk (fun k (hk : k < 8) => show E / 2 ^ (8 * i + k) % 2 = high / 2 ^ k % 2 by rw [HEB0.out k hk, expB, if_neg (by omega), if_pos h31])
          clear HEB0 hz h31
          have hbits : ∀ k : Nat, k < 8 → bits .and .i64 ((high : Int) / 2 ^ k) 1 = ((E / 2 ^ (8 * i + k) % 2 : Nat) : Int) := fun k hk => by
            rw [HEB.out k hk, and1i]
            simp
          have HBT := Aside0.mk hbits
          clear hbits HEX HEB
          go_wp2
          clear z0 z1 b0 b1
          go_loopg [10] 9 (fun gg2 s10 wr2 => ∃ k2 : Nat, k2 ≤ 8 ∧ k2 ≤ gg2 ∧ s10 = .int .i64 ((k2 : Int) - 1) ∧ ∃ c : Nat, c < BB ∧ c % PP = a ^ (E / 2 ^ (8 * i + k2)) % PP ∧ Aside0 (St w [⟨40, .i64, fe a⟩, ⟨40, .i64, z16⟩] wr2) ∧ Aside0 (wr2.heap[g]? = some (.cells (arr .i64 (fe c)) 40 (0, 0))))
          case atStart => exact ⟨8, Nat.le_refl _, by omega, rfl, c, hc, by rw [hcm, show 8 * (i + 1) = 8 * i + 8 from by omega], S2, G2⟩
          case round =>
            obtain ⟨k2, hk2, hg2, rfl, c, hc, hcm, S3, G3⟩ := hrel
            rcases Nat.eq_zero_or_pos k2 with h0 | h0
            · subst h0
              have e1 : ((0 : Nat) : Int) - 1 = -1 := rfl
              rw [e1]
              rw [Nat.add_zero] at hcm
              go_wp2
              go_roundg i
              case measure => omega
              case rel => exact ⟨i, by omega, Nat.le_refl _, by go_num, c, hc, hcm, S3, G3⟩
            · obtain ⟨k, rfl⟩ : ∃ k, k2 = k + 1 := ⟨k2 - 1, by omega⟩
              have e1 : (((k + 1 : Nat)) : Int) - 1 = (k : Int) := by omega
              rw [e1]
              have k0 : (k : Int) ≥ 0 := by omega
              have k8 : (k : Int) < 8 := by omega
              have k8n : k < 8 := by omega
              have k64 : min k 64 = k := by omega
              have wk : IntKind.u64.wrap (k : Int) = (k : Int) := by rw [IntKind.wrap_u64]; omega
              have hbit := HBT.out k k8n
              have hcm1 : c % PP = a ^ (E / 2 ^ (8 * i + k + 1)) % PP := hcm
              clear e1
              rcases Nat.mod_two_eq_zero_or_one (E / 2 ^ (8 * i + k)) with hb0 | hb0
              · have HPW := Aside0.mk (pow_sq a E (8 * i + k) c hb0 hcm1)
                rw [hb0] at hbit
                have hbit0 : bits .and .i64 ((high : Int) / 2 ^ k) 1 = 0 := hbit
                clear hbit hb0 hcm hcm1
                go_wp2_with (first
                  | ((with_reducible refine gate_dst (N := 26) rfl ?_); refine ld_arr rfl 40 (.tmp 7) rfl g rfl G3.out Try.underlying40 (m := 16) (by kernel_rfl) (fe_length _) ?_)
                  | ((with_reducible refine gate_dst (N := 27) rfl ?_); refine ld_arr rfl 40 (.tmp 7) rfl g rfl G3.out Try.underlying40 (m := 16) (by kernel_rfl) (fe_length _) ?_)
                  | ((with_reducible refine (spec_l05Mul.calls c c _ hc hc).mono ?_); rintro e w4 ⟨c2, hc2, hm2, rfl, hb⟩; have S4 := Aside0.mk (S3.out.step hb); have G4 := Aside0.mk (blk_below G3.out hb); clear hb)
                  | (refine st_arr rfl 40 (.tmp 7) (.tmp 28) rfl g (xs := fe c2) rfl rfl G4.out (m := 16) (by kernel_rfl) (fe_length _) (by rw [fe_length, fe_length]) ?_; intro w5 h1 h2 h4 h3; have G5 := Aside0.mk h1; have S5 := Aside0.mk (St.other S4.out h2 h3 HG.out); clear h1 h2 h3 h4))
                go_roundg k
                case measure => omega
                case rel => exact ⟨k, by omega, Nat.le_refl _, by go_num, c2, hc2, by rw [hm2, HPW.out], S5, G5⟩
              · have HPW := Aside0.mk (fun y hy => pow_sq1 a E (8 * i + k) c hb0 hcm1 y hy)
                rw [hb0] at hbit
                have hbit0 : bits .and .i64 ((high : Int) / 2 ^ k) 1 = 1 := hbit
                clear hbit hb0 hcm hcm1
                go_wp2_with (first
                  | ((with_reducible refine gate_dst (N := 26) rfl ?_); refine ld_arr rfl 40 (.tmp 7) rfl g rfl G3.out Try.underlying40 (m := 16) (by kernel_rfl) (fe_length _) ?_)
                  | ((with_reducible refine gate_dst (N := 27) rfl ?_); refine ld_arr rfl 40 (.tmp 7) rfl g rfl G3.out Try.underlying40 (m := 16) (by kernel_rfl) (fe_length _) ?_)
                  | ((with_reducible refine gate_dst (N := 35) rfl ?_); refine ld_arr rfl 40 (.tmp 7) rfl g rfl G5.out Try.underlying40 (m := 16) (by kernel_rfl) (fe_length _) ?_)
                  | ((with_reducible refine gate_dst (N := 36) rfl ?_); refine ld_arr rfl 40 (.tmp 3) rfl w.heap.size rfl (S5.out.blk 0 rfl) Try.underlying40 (m := 16) (by kernel_rfl) (fe_length _) ?_)
                  | ((with_reducible refine (spec_l05Mul.calls c c _ hc hc).mono ?_); rintro e w4 ⟨c2, hc2, hm2, rfl, hb⟩; have S4 := Aside0.mk (S3.out.step hb); have G4 := Aside0.mk (blk_below G3.out hb); clear hb)
                  | (refine st_arr rfl 40 (.tmp 7) (.tmp 28) rfl g (xs := fe c2) rfl rfl G4.out (m := 16) (by kernel_rfl) (fe_length _) (by rw [fe_length, fe_length]) ?_; intro w5 h1 h2 h4 h3; have G5 := Aside0.mk h1; have S5 := Aside0.mk (St.other S4.out h2 h3 HG.out); clear h1 h2 h3 h4)
                  | ((with_reducible refine (spec_l05Mul.calls c2 a _ hc2 HA.out).mono ?_); rintro e w6 ⟨c3, hc3, hm3, rfl, hb⟩; have S6 := Aside0.mk (S5.out.step hb); have G6 := Aside0.mk (blk_below G5.out hb); clear hb)
                  | (refine st_arr rfl 40 (.tmp 7) (.tmp 37) rfl g (xs := fe c3) rfl rfl G6.out (m := 16) (by kernel_rfl) (fe_length _) (by rw [fe_length, fe_length]) ?_; intro w7 h1 h2 h4 h3; have G7 := Aside0.mk h1; have S7 := Aside0.mk (St.other S6.out h2 h3 HG.out); clear h1 h2 h3 h4))
                go_roundg k
                case measure => omega
                case rel => exact ⟨k, by omega, Nat.le_refl _, by go_num, c3, hc3, by rw [hm3, HPW.out c2 hm2], S7, G7⟩
        · have z1 : ¬ (i : Int) = 31 := by omega
          have b0 : ((i : Int) == 0) = false := beq_eq_false_iff_ne.mpr z0
          have b1 : ((i : Int) == 31) = false := beq_eq_false_iff_ne.mpr z1
          have HEB := Aside0.mk (fun k (hk : k < 8) => show E / 2 ^ (8 * i + k) % 2 = 255 / 2 ^ k % 2 by rw [HEB0.out k hk, expB, if_neg (by omega), if_neg h31])
          clear HEB0 hz h31
          have hbits : ∀ k : Nat, k < 8 → bits .and .i64 ((255 : Int) / 2 ^ k) 1 = ((E / 2 ^ (8 * i + k) % 2 : Nat) : Int) := fun k hk => by
            rw [HEB.out k hk, and1i]
            simp
          have HBT := Aside0.mk hbits
          clear hbits HEX HEB
          go_wp2
          clear z0 z1 b0 b1
          go_loopg [10] 9 (fun gg2 s10 wr2 => ∃ k2 : Nat, k2 ≤ 8 ∧ k2 ≤ gg2 ∧ s10 = .int .i64 ((k2 : Int) - 1) ∧ ∃ c : Nat, c < BB ∧ c % PP = a ^ (E / 2 ^ (8 * i + k2)) % PP ∧ Aside0 (St w [⟨40, .i64, fe a⟩, ⟨40, .i64, z16⟩] wr2) ∧ Aside0 (wr2.heap[g]? = some (.cells (arr .i64 (fe c)) 40 (0, 0))))
          case atStart => exact ⟨8, Nat.le_refl _, by omega, rfl, c, hc, by rw [hcm, show 8 * (i + 1) = 8 * i + 8 from by omega], S2, G2⟩
          case round =>
            obtain ⟨k2, hk2, hg2, rfl, c, hc, hcm, S3, G3⟩ := hrel
            rcases Nat.eq_zero_or_pos k2 with h0 | h0
            · subst h0
              have e1 : ((0 : Nat) : Int) - 1 = -1 := rfl
              rw [e1]
              rw [Nat.add_zero] at hcm
              go_wp2
              go_roundg i
              case measure => omega
              case rel => exact ⟨i, by omega, Nat.le_refl _, by go_num, c, hc, hcm, S3, G3⟩
            · obtain ⟨k, rfl⟩ : ∃ k, k2 = k + 1 := ⟨k2 - 1, by omega⟩
              have e1 : (((k + 1 : Nat)) : Int) - 1 = (k : Int) := by omega
              rw [e1]
              have k0 : (k : Int) ≥ 0 := by omega
              have k8 : (k : Int) < 8 := by omega
              have k8n : k < 8 := by omega
              have k64 : min k 64 = k := by omega
              have wk : IntKind.u64.wrap (k : Int) = (k : Int) := by rw [IntKind.wrap_u64]; omega
              have hbit := HBT.out k k8n
              have hcm1 : c % PP = a ^ (E / 2 ^ (8 * i + k + 1)) % PP := hcm
              clear e1
              rcases Nat.mod_two_eq_zero_or_one (E / 2 ^ (8 * i + k)) with hb0 | hb0
              · have HPW := Aside0.mk (pow_sq a E (8 * i + k) c hb0 hcm1)
                rw [hb0] at hbit
                have hbit0 : bits .and .i64 ((255 : Int) / 2 ^ k) 1 = 0 := hbit
                clear hbit hb0 hcm hcm1
                go_wp2_with (first
                  | ((with_reducible refine gate_dst (N := 26) rfl ?_); refine ld_arr rfl 40 (.tmp 7) rfl g rfl G3.out Try.underlying40 (m := 16) (by kernel_rfl) (fe_length _) ?_)
                  | ((with_reducible refine gate_dst (N := 27) rfl ?_); refine ld_arr rfl 40 (.tmp 7) rfl g rfl G3.out Try.underlying40 (m := 16) (by kernel_rfl) (fe_length _) ?_)
                  | ((with_reducible refine (spec_l05Mul.calls c c _ hc hc).mono ?_); rintro e w4 ⟨c2, hc2, hm2, rfl, hb⟩; have S4 := Aside0.mk (S3.out.step hb); have G4 := Aside0.mk (blk_below G3.out hb); clear hb)
                  | (refine st_arr rfl 40 (.tmp 7) (.tmp 28) rfl g (xs := fe c2) rfl rfl G4.out (m := 16) (by kernel_rfl) (fe_length _) (by rw [fe_length, fe_length]) ?_; intro w5 h1 h2 h4 h3; have G5 := Aside0.mk h1; have S5 := Aside0.mk (St.other S4.out h2 h3 HG.out); clear h1 h2 h3 h4))
                go_roundg k
                case measure => omega
                case rel => exact ⟨k, by omega, Nat.le_refl _, by go_num, c2, hc2, by rw [hm2, HPW.out], S5, G5⟩
              · have HPW := Aside0.mk (fun y hy => pow_sq1 a E (8 * i + k) c hb0 hcm1 y hy)
                rw [hb0] at hbit
                have hbit0 : bits .and .i64 ((255 : Int) / 2 ^ k) 1 = 1 := hbit
                clear hbit hb0 hcm hcm1
                go_wp2_with (first
                  | ((with_reducible refine gate_dst (N := 26) rfl ?_); refine ld_arr rfl 40 (.tmp 7) rfl g rfl G3.out Try.underlying40 (m := 16) (by kernel_rfl) (fe_length _) ?_)
                  | ((with_reducible refine gate_dst (N := 27) rfl ?_); refine ld_arr rfl 40 (.tmp 7) rfl g rfl G3.out Try.underlying40 (m := 16) (by kernel_rfl) (fe_length _) ?_)
                  | ((with_reducible refine gate_dst (N := 35) rfl ?_); refine ld_arr rfl 40 (.tmp 7) rfl g rfl G5.out Try.underlying40 (m := 16) (by kernel_rfl) (fe_length _) ?_)
                  | ((with_reducible refine gate_dst (N := 36) rfl ?_); refine ld_arr rfl 40 (.tmp 3) rfl w.heap.size rfl (S5.out.blk 0 rfl) Try.underlying40 (m := 16) (by kernel_rfl) (fe_length _) ?_)
                  | ((with_reducible refine (spec_l05Mul.calls c c _ hc hc).mono ?_); rintro e w4 ⟨c2, hc2, hm2, rfl, hb⟩; have S4 := Aside0.mk (S3.out.step hb); have G4 := Aside0.mk (blk_below G3.out hb); clear hb)
                  | (refine st_arr rfl 40 (.tmp 7) (.tmp 28) rfl g (xs := fe c2) rfl rfl G4.out (m := 16) (by kernel_rfl) (fe_length _) (by rw [fe_length, fe_length]) ?_; intro w5 h1 h2 h4 h3; have G5 := Aside0.mk h1; have S5 := Aside0.mk (St.other S4.out h2 h3 HG.out); clear h1 h2 h3 h4)
                  | ((with_reducible refine (spec_l05Mul.calls c2 a _ hc2 HA.out).mono ?_); rintro e w6 ⟨c3, hc3, hm3, rfl, hb⟩; have S6 := Aside0.mk (S5.out.step hb); have G6 := Aside0.mk (blk_below G5.out hb); clear hb)
                  | (refine st_arr rfl 40 (.tmp 7) (.tmp 37) rfl g (xs := fe c3) rfl rfl G6.out (m := 16) (by kernel_rfl) (fe_length _) (by rw [fe_length, fe_length]) ?_; intro w7 h1 h2 h4 h3; have G7 := Aside0.mk h1; have S7 := Aside0.mk (St.other S6.out h2 h3 HG.out); clear h1 h2 h3 h4))
                go_roundg k
                case measure => omega
                case rel => exact ⟨k, by omega, Nat.le_refl _, by go_num, c3, hc3, by rw [hm3, HPW.out c2 hm2], S7, G7⟩


end Go.Proofs.Ytijeackkgcnbgaa.XH
