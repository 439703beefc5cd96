-- Written by a program of this session (xp.py over the kit's printer, with functions proved by hand). Lean checks it.
import Derived.Test.YtijeackkgcnbgaaXTx0
import Derived.Test.YtijeackkgcnbgaaXTx1
namespace Go.Proofs.Ytijeackkgcnbgaa.XT
open Go.Proofs.Ytijeackkgcnbgaa.Limb Go.Proofs.Ytijeackkgcnbgaa.Arr Go.Proofs.Ytijeackkgcnbgaa.FldA Go.Proofs.Ytijeackkgcnbgaa.FldB Go.Proofs.Ytijeackkgcnbgaa.FldC Go.Proofs.Ytijeackkgcnbgaa.FldS Go.Proofs.Ytijeackkgcnbgaa.FldP Go.Proofs.Ytijeackkgcnbgaa.FldW Go.Proofs.Ytijeackkgcnbgaa.FldM Go.Proofs.Ytijeackkgcnbgaa.FldT Go.Proofs.Ytijeackkgcnbgaa.St Go.Proofs.Ytijeackkgcnbgaa.StOps Go.Proofs.Ytijeackkgcnbgaa.StMid Go.Proofs.Ytijeackkgcnbgaa.StEq Go.Proofs.Ytijeackkgcnbgaa.StIdx
open Go.RowKit Go.Proofs.YtijeackkgcnbgaaW.PrintWords Go.Proofs.YtijeackkgcnbgaaW.PrintLast Go.Proofs.YtijeackkgcnbgaaW.PrintMore
attribute [local go_sem] max2_int min2_int max_two min_two max_three min_three max_four min_four   -- for this text's walks alone
set_option linter.unusedVariables false
set_option linter.unusedSimpArgs false

/-! ### spec_l05Mul: function 64 -/
set_option maxHeartbeats 1000000 in
set_option maxRecDepth 100000 in
theorem spec_l05Mul.calls (x y : Nat) (w : World) (hx : x < BB) (hy : y < BB) :
    Calls Try.prog 64 #[.agg (arr .i64 (fe x)), .agg (arr .i64 (fe y))] w fun e w' => ∃ c, c < BB ∧ c % PP = x * y % PP ∧ e = .returned (.agg (arr .i64 (fe c))) ∧ Below w.heap.size w w' := by
  obtain ⟨hbd, c, hc1, hc2, hc3⟩ := mul_fe x y hx hy
  have HC := Aside0.mk (fun W => spec_l05Carry.calls (mulT x y) W hbd (by unfold mulT; exact fldS_length _ _))
  rw [hc2] at HC
  refine Calls.mono (R := fun e w' => e = .returned (.agg (arr .i64 (fe c))) ∧ Below w.heap.size w w') ?_ (fun e w' h => ⟨c, hc1, hc3, h⟩)
  clear hc1 hc2 hc3 hx hy hbd
  have RX := Aside0.mk (fe_getD x)
  have RY := Aside0.mk (fe_getD y)
  have LX := Aside0.mk (fe_length x)
  have LY := Aside0.mk (fe_length y)
  have NW := Aside0.mk (mulW_nb x y)
  have NR := Aside0.mk (fun i k => mulR_nb x y i (mulW (fe x) (fe y) i) _ (mulW_nb x y i) k)
  have LW := Aside0.mk (mulW_length (fe x) (fe y))
  have LR := Aside0.mk (fun i k => (mulR_length (fe x) (fe y) (mulW (fe x) (fe y) i) i k).trans (mulW_length _ _ i))
  have SW := Aside0.mk (fun i => show mulW (fe x) (fe y) (i + 1) = mulR (fe x) (fe y) i (mulW (fe x) (fe y) i) 16 from by simp only [mulW])
  have SR := Aside0.mk (fun i k => show mulR (fe x) (fe y) i (mulW (fe x) (fe y) i) (k + 1) = (mulR (fe x) (fe y) i (mulW (fe x) (fe y) i) k).set (i + k) ((mulR (fe x) (fe y) i (mulW (fe x) (fe y) i) k).getD (i + k) 0 + (fe x).getD i 0 * (fe y).getD k 0) from rfl)
  have R0 := Aside0.mk (fun i => show mulR (fe x) (fe y) i (mulW (fe x) (fe y) i) 0 = mulW (fe x) (fe y) i from rfl)
  have W0 := Aside0.mk (show mulW (fe x) (fe y) 0 = List.replicate 32 0 from rfl)
  have HT := Aside0.mk (show mulT x y = fldS (mulW (fe x) (fe y) 16) 16 from rfl)
  generalize mulT x y = ts at *
  generalize hR : (fun i k => mulR (fe x) (fe y) i (mulW (fe x) (fe y) i) k) = R at *
  have HR : ∀ i k, mulR (fe x) (fe y) i (mulW (fe x) (fe y) i) k = R i k := fun i k => by rw [← hR]
  simp only [HR] at NR LR SW SR R0
  generalize mulW (fe x) (fe y) = M at *
  clear HR hR
  generalize fe x = xs at *
  generalize fe y = ys at *
  generalize hf : fe c = zs at *
  have LZ := Aside0.mk (hf ▸ fe_length c)
  clear hf
  have S0 := Aside0.mk (((((St.start w).push rfl 40 .i64 xs).push (World.size_alloc ..) 40 .i64 ys).push (by rw [World.size_alloc, World.size_alloc]; rfl) 40 .i64 z16).push (by rw [World.size_alloc, World.size_alloc, World.size_alloc]; rfl) 80 .i64 (List.replicate 32 0))
  go_enter Try.func64, Try.ntmps64
  go_wp2_with (refine st_arr rfl 80 (.tmp 5) (.tmp 10) rfl (w.heap.size + 3) (k := .i64) (xs := List.replicate 32 0) rfl rfl (S0.out.blk 3 rfl) (m := 32) (by kernel_rfl) (List.length_replicate ..) rfl ?_; intro w0 h1 h2 h4 h3; have S1 := Aside0.mk (S0.out.row 3 rfl h1 h2 h3); clear h1 h2 h3 h4 S0)
  go_loopg [6, 7] 16 (fun gg v6 _ wr => ∃ i : Nat, i ≤ 16 ∧ 16 - i ≤ gg ∧ v6 = .int .i64 i ∧ Aside0 (St w [⟨40, .i64, xs⟩, ⟨40, .i64, ys⟩, ⟨40, .i64, z16⟩, ⟨80, .i64, M i⟩] wr))
  case atStart =>
    refine ⟨0, by omega, by omega, rfl, ?_⟩
    rw [W0.out]
    exact S1
  case round =>
    obtain ⟨i, hi, hg, rfl, S⟩ := hrel
    by_cases hlt : i < 16
    · have hlti : (i : Int) < 16 := by omega
      have a := RX.out i
      have a1 := a.1
      have a2 := a.2
      clear a
      go_wp2
      go_loopg [7] 16 (fun gg2 v7 wr2 => ∃ k : Nat, k ≤ 16 ∧ 16 - k ≤ gg2 ∧ v7 = .int .i64 k ∧ Aside0 (St w [⟨40, .i64, xs⟩, ⟨40, .i64, ys⟩, ⟨40, .i64, z16⟩, ⟨80, .i64, R i k⟩] wr2))
      case atStart => exact ⟨0, by omega, by omega, rfl, by rw [R0.out]; exact S⟩
      case round =>
        obtain ⟨k, hk, hg2, rfl, S2⟩ := hrel
        by_cases hlt2 : k < 16
        · have hlti2 : (k : Int) < 16 := by omega
          have hc1 := S2.out.cell 3 rfl (i + k) (by rw [LR.out]; omega)
          have hf1 := blk_frozen (S2.out.blk 3 rfl) (i + k)
          have hc2 := S2.out.cell 0 rfl i (by rw [LX.out]; omega)
          have hc3 := S2.out.cell 1 rfl k (by rw [LY.out]; omega)
          rw [Nat.add_zero] at hc2
          have b := RY.out k
          have m := NR.out i k (i + k)
          have P := Aside0.mk ((S2.out.set 3 rfl (i + k) ((R i k).getD (i + k) 0 + xs.getD i 0 * ys.getD k 0)).drew)
          have EQ := Aside0.mk (SR.out i k)
          have p := prod_le _ _ ⟨a1, a2⟩ b
          have p1 := p.1
          have p2 := p.2
          have m1 := m.1
          have m2 : (R i k).getD (i + k) 0 ≤ 1168197847040 := by have := m.2; omega
          clear b m p
          obtain ⟨j, hj⟩ : ∃ j : Nat, j = i + k := ⟨_, rfl⟩
          have hj1 : (i : Int) + (k : Int) = (j : Int) := by omega
          have hj2 : (j : Int) < 32 := by omega
          rw [← hj] at hc1 hf1 P EQ m1 m2
          generalize (R i k).getD j 0 = v at *
          generalize xs.getD i 0 = a at *
          generalize ys.getD k 0 = b at *
          generalize hab : a * b = ab at *
          clear hj
          go_wp2
          go_region
          go_wp2
          go_roundg (16 - (k + 1))
          case measure => omega
          case rel => exact ⟨k + 1, by omega, by omega, by go_num, by rw [EQ.out]; exact P⟩
        · have hk16 : k = 16 := by omega
          subst hk16
          have hneg : ¬ ((16 : Nat) : Int) < 16 := by omega
          go_wp2
          go_roundg (16 - (i + 1))
          case measure => omega
          case rel => exact ⟨i + 1, by omega, by omega, by go_num, by rw [SW.out]; exact S2⟩
    · have hi16 : i = 16 := by omega
      subst hi16
      have hneg : ¬ ((16 : Nat) : Int) < 16 := by omega
      obtain ⟨V0, e0⟩ : ∃ V0, V0 = wr := ⟨_, rfl⟩
      subst e0
      have SZ := Aside0.mk S.out.size
      have LM := Aside0.mk (LW.out 16)
      have NM := Aside0.mk (NW.out 16)
      generalize M 16 = W at *
      have LF := Aside0.mk (fun k => fldS_length W k)
      have SF := Aside0.mk (fun k => show fldS W (k + 1) = (fldS W k).set k (W.getD k 0 + 38 * W.getD (k + 16) 0) from rfl)
      have F0 := Aside0.mk (show fldS W 0 = List.replicate 16 0 from rfl)
      generalize fldS W = F at *
      go_wp2
      go_loopg [9] 16 (fun gg2 v9 wr2 => ∃ k : Nat, k ≤ 16 ∧ 16 - k ≤ gg2 ∧ v9 = .int .i64 k ∧ Aside0 (St w [⟨40, .i64, xs⟩, ⟨40, .i64, ys⟩, ⟨40, .i64, z16⟩, ⟨80, .i64, W⟩] wr2) ∧ Aside0 (wr2.heap[V0.heap.size]? = some (.cells (arr .i64 (F k)) 40 (0, 0))))
      case atStart =>
        refine ⟨0, by omega, by omega, rfl, ⟨S.out.alloc (.cells (arr .i64 z16) 40)⟩, ?_⟩
        rw [F0.out]
        exact ⟨blk_new V0 (.cells (arr .i64 z16) 40)⟩
      case round =>
        obtain ⟨k, hk, hg2, rfl, S2, G⟩ := hrel
        by_cases hlt2 : k < 16
        · have hlti2 : (k : Int) < 16 := by omega
          obtain ⟨j, hj⟩ : ∃ j : Nat, j = k + 16 := ⟨_, rfl⟩
          have hj1 : (k : Int) + 16 = (j : Int) := by omega
          have hj2 : (j : Int) < 32 := by omega
          have hk2 : (k : Int) < 32 := by omega
          have hc1 := S2.out.cell 3 rfl k (by rw [LM.out]; omega)
          have hc2 := S2.out.cell 3 rfl j (by rw [LM.out]; omega)
          have hc3 := blk_get G.out k (by rw [LF.out]; omega)
          have hf3 := blk_frozen G.out k
          have n1 := NM.out k
          have n2 := NM.out j
          have n3 := n1.1
          have n4 : W.getD k 0 ≤ 1099478073600 := by have := n1.2; omega
          have n5 := n2.1
          have n6 : W.getD j 0 ≤ 1099478073600 := by have := n2.2; omega
          have P := Aside0.mk ((S2.out.far V0.heap.size SZ.out k (.int .i64 (W.getD k 0 + 38 * W.getD j 0))).drew)
          have PG := Aside0.mk (blk_drew (blk_upd G.out k (W.getD k 0 + 38 * W.getD j 0)))
          have EQ := Aside0.mk (SF.out k)
          rw [← hj] at EQ
          clear n1 n2 hj
          generalize W.getD k 0 = a at *
          generalize W.getD j 0 = b at *
          go_wp2
          go_region
          go_wp2
          go_roundg (16 - (k + 1))
          case measure => omega
          case rel => exact ⟨k + 1, by omega, by omega, by go_num, P, by rw [EQ.out]; exact PG⟩
        · have hk16 : k = 16 := by omega
          subst hk16
          have hneg : ¬ ((16 : Nat) : Int) < 16 := by omega
          rw [← HT.out] at G
          have LT : Aside0 (ts.length = 16) := ⟨by rw [HT.out, LF.out]⟩
          go_wp2_with (first
            | ((with_reducible refine gate_dst (N := 49) rfl ?_); refine ld_arr rfl 40 (.tmp 8) rfl V0.heap.size rfl G.out Try.underlying40 (m := 16) (by kernel_rfl) LT.out ?_)
            | ((with_reducible refine (HC.out _).mono ?_); rintro e w1 ⟨rfl, hb⟩; have S3 := Aside0.mk (S2.out.step hb); clear hb)
            | (refine st_arr rfl 40 (.tmp 4) (.tmp 50) rfl (w.heap.size + 2) (xs := zs) rfl rfl (S3.out.blk 2 rfl) (m := 16) (by kernel_rfl) LZ.out (by rw [LZ.out]; rfl) ?_; intro w' h1 h2 h4 h3; have H1 := Aside0.mk h1; have S4 := Aside0.mk (S3.out.row 2 rfl h1 h2 h3); clear h1 h2 h3 h4))
          exact bodyPost_ret (results_cell_row Try.results64 _ _ (w.heap.size + 2) 40 _ (0, 0) _ rfl H1.out Try.underlying40 rfl (by rw [arr_size, LZ.out]; kernel_rfl)) rfl ⟨rfl, S4.out.below⟩


/-! ### spec_l05Small: function 89 -/
theorem small_fe (n : Nat) (hn : n < 4294967296) : ((List.replicate 16 (0 : Int)).set 0 ((n % 65536 : Nat) : Int)).set 1 ((n / 65536 : Nat) : Int) = fe n := by
  refine eq_fe (xs := ((List.replicate 16 (0 : Int)).set 0 ((n % 65536 : Nat) : Int)).set 1 ((n / 65536 : Nat) : Int)) ?_ (by simp) n ?_
  · have h0 : Ok 65536 (List.replicate 16 (0 : Int)) := by
      intro x hx
      rw [List.eq_of_mem_replicate hx]; omega
    exact ok_set (ok_set h0 _ _ (by omega) (by omega)) _ _ (by omega) (by omega)
  · rw [BB_pow, Nat.mod_eq_of_lt (show n < BB by rw [BB_eq]; omega)]
    show lval 65536 [((n % 65536 : Nat) : Int), ((n / 65536 : Nat) : Int), 0, 0, 0, 0, 0, 0, 0, 0, 0, 0, 0, 0, 0, 0] = _
    simp only [lval]
    omega
set_option maxHeartbeats 1000000 in
set_option maxRecDepth 100000 in
theorem spec_l05Small.calls (n : Nat) (w : World) (hn : n < 4294967296) :
    Calls Try.prog 89 #[.int .i64 (n : Int)] w fun e w' => e = .returned (.agg (arr .i64 (fe n))) ∧ Below w.heap.size w w' := by
  have HF := Aside0.mk (small_fe n hn)
  have LF := Aside0.mk (fe_length n)
  obtain ⟨a, ha⟩ : ∃ a : Nat, a = n % 65536 := ⟨_, rfl⟩
  obtain ⟨b, hb⟩ : ∃ b : Nat, b = n / 65536 := ⟨_, rfl⟩
  rw [← ha, ← hb] at HF
  have n0 : (n : Int) % 65536 = (a : Int) := by omega
  have n1 : (n : Int).tmod 65536 = (a : Int) := by rw [Int.tmod_eq_emod_of_nonneg (by omega)]; omega
  have n2 : (n : Int) / 65536 = (b : Int) := by omega
  have n3 : (n : Int).tdiv 65536 = (b : Int) := by rw [Int.tdiv_eq_ediv_of_nonneg (by omega)]; omega
  have n4 : (n : Int) < 4294967296 := by omega
  have n5 : (b : Int) < 65536 := by omega
  generalize fe n = zs at *
  clear ha hb hn
  have S0 := Aside0.mk (((St.start w).push rfl 40 .i64 z16).push (World.size_alloc ..) 40 .i64 z16)
  go_enter Try.func89, Try.ntmps89
  go_wp2
  exact bodyPost_ret (results_cell_row Try.results89 _ _ w.heap.size 40 _ (0, 0) _ rfl (blk_alloc (blk_new w _) _) Try.underlying40 rfl (by kernel_rfl)) rfl ⟨by rw [← HF.out]; rfl, below_alloc (below_alloc (Below.refl _ _) _) _⟩


/-! ### spec_l05Pow: function 94 -/
theorem and1i (n : Int) : bits .and .i64 n 1 = n % 2 := by
  show IntKind.i64.wrap ((BitVec.ofInt 64 n &&& BitVec.ofInt 64 1).toNat : Int) = _
  rw [BitVec.toNat_and, show (BitVec.ofInt 64 1).toNat = 1 from by decide, Nat.and_one_is_mod, BitVec.toNat_ofInt]
  simp [IntKind.wrap, IntKind.bits, IntKind.signed]
  omega
set_option maxHeartbeats 4000000 in
set_option maxRecDepth 100000 in
theorem spec_l05Pow.calls (a low high : Nat) (w : World) (ha : a < BB) (hlo : low < 256) (hhi : high < 256) :
    Calls Try.prog 94 #[.agg (arr .i64 (fe a)), .int .i64 (low : Int), .int .i64 (high : Int)] w fun e w' => ∃ c, c < BB ∧ c % PP = a ^ (expN low high) % PP ∧ e = .returned (.agg (arr .i64 (fe c))) ∧ Below w.heap.size w w' := by
  obtain ⟨E, hE⟩ : ∃ E, E = expN low high := ⟨_, rfl⟩
  have HX := Aside0.mk (fun i k hi hk => exp_bit low high i k hlo hhi hi hk)
  have hE2 := expN_lt low high hlo hhi
  rw [← hE] at HX hE2 ⊢
  have H0 := Aside0.mk (show a ^ (E / 2 ^ 256) % PP = 1 % PP by rw [Nat.div_eq_of_lt hE2, Nat.pow_zero])
  have HA := Aside0.mk ha
  have HS1 := Aside0.mk (fun W => (show Calls Try.prog 89 #[.int .i64 1] W _ from spec_l05Small.calls 1 W (by decide)))
  clear hE hE2 ha hlo hhi
  have S := Aside0.mk (((St.start w).push rfl 40 .i64 (fe a)).push (World.size_alloc ..) 40 .i64 z16)
  go_enter Try.func94, Try.ntmps94
  go_wp2_with (first
    | ((with_reducible refine (HS1.out _).mono ?_); rintro e w1 ⟨rfl, hb⟩; have S1 := Aside0.mk (S.out.step hb); clear hb)
    | (refine st_arr rfl 40 (.tmp 7) (.tmp 11) rfl w1.heap.size (xs := fe 1) rfl rfl (blk_new w1 (.cells (arr .i64 z16) 40)) (m := 16) (by kernel_rfl) (fe_length _) (by rw [fe_length]; rfl) ?_; intro w2 h1 h2 h4 h3; have G2 := Aside0.mk h1; have S2 := Aside0.mk (St.other (S1.out.alloc (.cells (arr .i64 z16) 40)) h2 h3 S1.out.size); clear h1 h2 h3 h4))
  have HG := Aside0.mk S1.out.size
  generalize w1.heap.size = g at *
  go_loopg [8] 33 (fun gg s8 wr => ∃ k : Nat, k ≤ 32 ∧ k ≤ gg ∧ s8 = .int .i64 ((k : Int) - 1) ∧ ∃ c : Nat, c < BB ∧ c % PP = a ^ (E / 2 ^ (8 * k)) % PP ∧ Aside0 (St w [⟨40, .i64, fe a⟩, ⟨40, .i64, z16⟩] wr) ∧ Aside0 (wr.heap[g]? = some (.cells (arr .i64 (fe c)) 40 (0, 0))))
  case atStart => exact ⟨32, Nat.le_refl _, by omega, rfl, 1, by decide, by rw [← H0.out], S2, G2⟩
  case round =>
    clear S2 G2 S1 S
    obtain ⟨k, hk, hg, rfl, c, hc, hcm, S2, G2⟩ := hrel
    rcases Nat.eq_zero_or_pos k with h0 | h0
    · subst h0
      have e0 : ((0 : Nat) : Int) - 1 = -1 := rfl
      rw [e0]
      rw [Nat.mul_zero, Nat.pow_zero, Nat.div_one] at hcm
      go_wp2_with (first
        | ((with_reducible refine gate_dst (N := 38) rfl ?_); refine ld_arr rfl 40 (.tmp 7) rfl g rfl G2.out Try.underlying40 (m := 16) (by kernel_rfl) (fe_length _) ?_)
        | (refine st_arr rfl 40 (.tmp 6) (.tmp 38) rfl (w.heap.size + 1) (xs := fe c) rfl rfl (S2.out.blk 1 rfl) (m := 16) (by kernel_rfl) (fe_length _) (by rw [fe_length]; rfl) ?_; intro w' h1 h2 h4 h3; have H1 := Aside0.mk h1; have S3 := Aside0.mk (S2.out.row 1 rfl h1 h2 h3); clear h1 h2 h3 h4))
      exact bodyPost_ret (results_cell_row Try.results94 _ _ (w.heap.size + 1) 40 _ (0, 0) _ rfl H1.out Try.underlying40 rfl (by rw [arr_size, fe_length]; kernel_rfl)) rfl ⟨c, hc, hcm, rfl, S3.out.below⟩
    · obtain ⟨i, rfl⟩ : ∃ i, k = i + 1 := ⟨k - 1, by omega⟩
      have e0 : (((i + 1 : Nat)) : Int) - 1 = (i : Int) := by omega
      rw [e0]
      have hi0 : (i : Int) ≥ 0 := by omega
      have HEX := Aside0.mk (show True from trivial)
      have HEB0 := Aside0.mk (fun k hk => HX.out i k (by omega) hk)
      clear e0
      rcases Nat.eq_zero_or_pos i with hz | hz
      · have z0 : (i : Int) = 0 := by omega
        have z1 : ¬ (i : Int) = 31 := by omega
        have b0 := z0
        have b1 := z1
        have HEB := Aside0.mk (fun k (hk : k < 8) => show E / 2 ^ (8 * i + k) % 2 = low / 2 ^ k % 2 by rw [HEB0.out k hk, expB, if_pos hz])
        clear HEB0 hz
        have hbits : ∀ k : Nat, k < 8 → bits .and .i64 ((low : Int) / 2 ^ k) 1 = ((E / 2 ^ (8 * i + k) % 2 : Nat) : Int) := fun k hk => by
          rw [HEB.out k hk, and1i]
          simp
        have HBT := Aside0.mk hbits
        clear hbits HEX HEB
        go_wp2
        clear z0 z1 b0 b1
        go_loopg [10] 9 (fun gg2 s10 wr2 => ∃ k2 : Nat, k2 ≤ 8 ∧ k2 ≤ gg2 ∧ s10 = .int .i64 ((k2 : Int) - 1) ∧ ∃ c : Nat, c < BB ∧ c % PP = a ^ (E / 2 ^ (8 * i + k2)) % PP ∧ Aside0 (St w [⟨40, .i64, fe a⟩, ⟨40, .i64, z16⟩] wr2) ∧ Aside0 (wr2.heap[g]? = some (.cells (arr .i64 (fe c)) 40 (0, 0))))
        case atStart => exact ⟨8, Nat.le_refl _, by omega, rfl, c, hc, by rw [hcm, show 8 * (i + 1) = 8 * i + 8 from by omega], S2, G2⟩
        case round =>
          obtain ⟨k2, hk2, hg2, rfl, c, hc, hcm, S3, G3⟩ := hrel
          rcases Nat.eq_zero_or_pos k2 with h0 | h0
          · subst h0
            have e1 : ((0 : Nat) : Int) - 1 = -1 := rfl
            rw [e1]
            rw [Nat.add_zero] at hcm
            go_wp2
            go_roundg i
            case measure => omega
            case rel => exact ⟨i, by omega, Nat.le_refl _, by go_num, c, hc, hcm, S3, G3⟩
          · obtain ⟨k, rfl⟩ : ∃ k, k2 = k + 1 := ⟨k2 - 1, by omega⟩
            have e1 : (((k + 1 : Nat)) : Int) - 1 = (k : Int) := by omega
            rw [e1]
            have k0 : (k : Int) ≥ 0 := by omega
            have k8 : (k : Int) < 8 := by omega
            have k8n : k < 8 := by omega
            have k64 : min k 64 = k := by omega
            have wk : IntKind.u64.wrap (k : Int) = (k : Int) := by rw [IntKind.wrap_u64]; omega
            have hbit := HBT.out k k8n
            have hcm1 : c % PP = a ^ (E / 2 ^ (8 * i + k + 1)) % PP := hcm
            clear e1
            rcases Nat.mod_two_eq_zero_or_one (E / 2 ^ (8 * i + k)) with hb0 | hb0
            · have HPW := Aside0.mk (pow_sq a E (8 * i + k) c hb0 hcm1)
              rw [hb0] at hbit
              have hbit0 : bits .and .i64 ((low : Int) / 2 ^ k) 1 = 0 := hbit
              clear hbit hb0 hcm hcm1
              go_wp2_with (first
                | ((with_reducible refine gate_dst (N := 26) rfl ?_); refine ld_arr rfl 40 (.tmp 7) rfl g rfl G3.out Try.underlying40 (m := 16) (by kernel_rfl) (fe_length _) ?_)
                | ((with_reducible refine gate_dst (N := 27) rfl ?_); refine ld_arr rfl 40 (.tmp 7) rfl g rfl G3.out Try.underlying40 (m := 16) (by kernel_rfl) (fe_length _) ?_)
                | ((with_reducible refine (spec_l05Mul.calls c c _ hc hc).mono ?_); rintro e w4 ⟨c2, hc2, hm2, rfl, hb⟩; have S4 := Aside0.mk (S3.out.step hb); have G4 := Aside0.mk (blk_below G3.out hb); clear hb)
                | (refine st_arr rfl 40 (.tmp 7) (.tmp 28) rfl g (xs := fe c2) rfl rfl G4.out (m := 16) (by kernel_rfl) (fe_length _) (by rw [fe_length, fe_length]) ?_; intro w5 h1 h2 h4 h3; have G5 := Aside0.mk h1; have S5 := Aside0.mk (St.other S4.out h2 h3 HG.out); clear h1 h2 h3 h4))
              go_roundg k
              case measure => omega
              case rel => exact ⟨k, by omega, Nat.le_refl _, by go_num, c2, hc2, by rw [hm2, HPW.out], S5, G5⟩
            · have HPW := Aside0.mk (fun y hy => pow_sq1 a E (8 * i + k) c hb0 hcm1 y hy)
              rw [hb0] at hbit
              have hbit0 : bits .and .i64 ((low : Int) / 2 ^ k) 1 = 1 := hbit
              clear hbit hb0 hcm hcm1
              go_wp2_with (first
                | ((with_reducible refine gate_dst (N := 26) rfl ?_); refine ld_arr rfl 40 (.tmp 7) rfl g rfl G3.out Try.underlying40 (m := 16) (by kernel_rfl) (fe_length _) ?_)
                | ((with_reducible refine gate_dst (N := 27) rfl ?_); refine ld_arr rfl 40 (.tmp 7) rfl g rfl G3.out Try.underlying40 (m := 16) (by kernel_rfl) (fe_length _) ?_)
                | ((with_reducible refine gate_dst (N := 35) rfl ?_); refine ld_arr rfl 40 (.tmp 7) rfl g rfl G5.out Try.underlying40 (m := 16) (by kernel_rfl) (fe_length _) ?_)
                | ((with_reducible refine gate_dst (N := 36) rfl ?_); refine ld_arr rfl 40 (.tmp 3) rfl w.heap.size rfl (S5.out.blk 0 rfl) Try.underlying40 (m := 16) (by kernel_rfl) (fe_length _) ?_)
                | ((with_reducible refine (spec_l05Mul.calls c c _ hc hc).mono ?_); rintro e w4 ⟨c2, hc2, hm2, rfl, hb⟩; have S4 := Aside0.mk (S3.out.step hb); have G4 := Aside0.mk (blk_below G3.out hb); clear hb)
                | (refine st_arr rfl 40 (.tmp 7) (.tmp 28) rfl g (xs := fe c2) rfl rfl G4.out (m := 16) (by kernel_rfl) (fe_length _) (by rw [fe_length, fe_length]) ?_; intro w5 h1 h2 h4 h3; have G5 := Aside0.mk h1; have S5 := Aside0.mk (St.other S4.out h2 h3 HG.out); clear h1 h2 h3 h4)
                | ((with_reducible refine (spec_l05Mul.calls c2 a _ hc2 HA.out).mono ?_); rintro e w6 ⟨c3, hc3, hm3, rfl, hb⟩; have S6 := Aside0.mk (S5.out.step hb); have G6 := Aside0.mk (blk_below G5.out hb); clear hb)
                | (refine st_arr rfl 40 (.tmp 7) (.tmp 37) rfl g (xs := fe c3) rfl rfl G6.out (m := 16) (by kernel_rfl) (fe_length _) (by rw [fe_length, fe_length]) ?_; intro w7 h1 h2 h4 h3; have G7 := Aside0.mk h1; have S7 := Aside0.mk (St.other S6.out h2 h3 HG.out); clear h1 h2 h3 h4))
              go_roundg k
              case measure => omega
              case rel => exact ⟨k, by omega, Nat.le_refl _, by go_num, c3, hc3, by rw [hm3, HPW.out c2 hm2], S7, G7⟩
      · have z0 : ¬ (i : Int) = 0 := by omega
        by_cases h31 : i = 31
        · have z1 : (i : Int) = 31 := by omega
          have b0 := z0
          have b1 := z1
          have HEB := Aside0.mk (fun k (hk : k < 8) => show E / 2 ^ (8 * i + k) % 2 = high / 2 ^ k % 2 by rw [HEB0.out k hk, expB, if_neg (by omega), if_pos h31])
          clear HEB0 hz h31
          have hbits : ∀ k : Nat, k < 8 → bits .and .i64 ((high : Int) / 2 ^ k) 1 = ((E / 2 ^ (8 * i + k) % 2 : Nat) : Int) := fun k hk => by
            rw [HEB.out k hk, and1i]
            simp
          have HBT := Aside0.mk hbits
          clear hbits HEX HEB
          go_wp2
          clear z0 z1 b0 b1
          go_loopg [10] 9 (fun gg2 s10 wr2 => ∃ k2 : Nat, k2 ≤ 8 ∧ k2 ≤ gg2 ∧ s10 = .int .i64 ((k2 : Int) - 1) ∧ ∃ c : Nat, c < BB ∧ c % PP = a ^ (E / 2 ^ (8 * i + k2)) % PP ∧ Aside0 (St w [⟨40, .i64, fe a⟩, ⟨40, .i64, z16⟩] wr2) ∧ Aside0 (wr2.heap[g]? = some (.cells (arr .i64 (fe c)) 40 (0, 0))))
          case atStart => exact ⟨8, Nat.le_refl _, by omega, rfl, c, hc, by rw [hcm, show 8 * (i + 1) = 8 * i + 8 from by omega], S2, G2⟩
          case round =>
            obtain ⟨k2, hk2, hg2, rfl, c, hc, hcm, S3, G3⟩ := hrel
            rcases Nat.eq_zero_or_pos k2 with h0 | h0
            · subst h0
              have e1 : ((0 : Nat) : Int) - 1 = -1 := rfl
              rw [e1]
              rw [Nat.add_zero] at hcm
              go_wp2
              go_roundg i
              case measure => omega
              case rel => exact ⟨i, by omega, Nat.le_refl _, by go_num, c, hc, hcm, S3, G3⟩
            · obtain ⟨k, rfl⟩ : ∃ k, k2 = k + 1 := ⟨k2 - 1, by omega⟩
              have e1 : (((k + 1 : Nat)) : Int) - 1 = (k : Int) := by omega
              rw [e1]
              have k0 : (k : Int) ≥ 0 := by omega
              have k8 : (k : Int) < 8 := by omega
              have k8n : k < 8 := by omega
              have k64 : min k 64 = k := by omega
              have wk : IntKind.u64.wrap (k : Int) = (k : Int) := by rw [IntKind.wrap_u64]; omega
              have hbit := HBT.out k k8n
              have hcm1 : c % PP = a ^ (E / 2 ^ (8 * i + k + 1)) % PP := hcm
              clear e1
              rcases Nat.mod_two_eq_zero_or_one (E / 2 ^ (8 * i + k)) with hb0 | hb0
              · have HPW := Aside0.mk (pow_sq a E (8 * i + k) c hb0 hcm1)
                rw [hb0] at hbit
                have hbit0 : bits .and .i64 ((high : Int) / 2 ^ k) 1 = 0 := hbit
                clear hbit hb0 hcm hcm1
                go_wp2_with (first
                  | ((with_reducible refine gate_dst (N := 26) rfl ?_); refine ld_arr rfl 40 (.tmp 7) rfl g rfl G3.out Try.underlying40 (m := 16) (by kernel_rfl) (fe_length _) ?_)
                  | ((with_reducible refine gate_dst (N := 27) rfl ?_); refine ld_arr rfl 40 (.tmp 7) rfl g rfl G3.out Try.underlying40 (m := 16) (by kernel_rfl) (fe_length _) ?_)
                  | ((with_reducible refine (spec_l05Mul.calls c c _ hc hc).mono ?_); rintro e w4 ⟨c2, hc2, hm2, rfl, hb⟩; have S4 := Aside0.mk (S3.out.step hb); have G4 := Aside0.mk (blk_below G3.out hb); clear hb)
                  | (refine st_arr rfl 40 (.tmp 7) (.tmp 28) rfl g (xs := fe c2) rfl rfl G4.out (m := 16) (by kernel_rfl) (fe_length _) (by rw [fe_length, fe_length]) ?_; intro w5 h1 h2 h4 h3; have G5 := Aside0.mk h1; have S5 := Aside0.mk (St.other S4.out h2 h3 HG.out); clear h1 h2 h3 h4))
                go_roundg k
                case measure => omega
                case rel => exact ⟨k, by omega, Nat.le_refl _, by go_num, c2, hc2, by rw [hm2, HPW.out], S5, G5⟩
              · have HPW := Aside0.mk (fun y hy => pow_sq1 a E (8 * i + k) c hb0 hcm1 y hy)
                rw [hb0] at hbit
                have hbit0 : bits .and .i64 ((high : Int) / 2 ^ k) 1 = 1 := hbit
                clear hbit hb0 hcm hcm1
                go_wp2_with (first
                  | ((with_reducible refine gate_dst (N := 26) rfl ?_); refine ld_arr rfl 40 (.tmp 7) rfl g rfl G3.out Try.underlying40 (m := 16) (by kernel_rfl) (fe_length _) ?_)
                  | ((with_reducible refine gate_dst (N := 27) rfl ?_); refine ld_arr rfl 40 (.tmp 7) rfl g rfl G3.out Try.underlying40 (m := 16) (by kernel_rfl) (fe_length _) ?_)
                  | ((with_reducible refine gate_dst (N := 35) rfl ?_); refine ld_arr rfl 40 (.tmp 7) rfl g rfl G5.out Try.underlying40 (m := 16) (by kernel_rfl) (fe_length _) ?_)
                  | ((with_reducible refine gate_dst (N := 36) rfl ?_); refine ld_arr rfl 40 (.tmp 3) rfl w.heap.size rfl (S5.out.blk 0 rfl) Try.underlying40 (m := 16) (by kernel_rfl) (fe_length _) ?_)
                  | ((with_reducible refine (spec_l05Mul.calls c c _ hc hc).mono ?_); rintro e w4 ⟨c2, hc2, hm2, rfl, hb⟩; have S4 := Aside0.mk (S3.out.step hb); have G4 := Aside0.mk (blk_below G3.out hb); clear hb)
                  | (refine st_arr rfl 40 (.tmp 7) (.tmp 28) rfl g (xs := fe c2) rfl rfl G4.out (m := 16) (by kernel_rfl) (fe_length _) (by rw [fe_length, fe_length]) ?_; intro w5 h1 h2 h4 h3; have G5 := Aside0.mk h1; have S5 := Aside0.mk (St.other S4.out h2 h3 HG.out); clear h1 h2 h3 h4)
                  | ((with_reducible refine (spec_l05Mul.calls c2 a _ hc2 HA.out).mono ?_); rintro e w6 ⟨c3, hc3, hm3, rfl, hb⟩; have S6 := Aside0.mk (S5.out.step hb); have G6 := Aside0.mk (blk_below G5.out hb); clear hb)
                  | (refine st_arr rfl 40 (.tmp 7) (.tmp 37) rfl g (xs := fe c3) rfl rfl G6.out (m := 16) (by kernel_rfl) (fe_length _) (by rw [fe_length, fe_length]) ?_; intro w7 h1 h2 h4 h3; have G7 := Aside0.mk h1; have S7 := Aside0.mk (St.other S6.out h2 h3 HG.out); clear h1 h2 h3 h4))
                go_roundg k
                case measure => omega
                case rel => exact ⟨k, by omega, Nat.le_refl _, by go_num, c3, hc3, by rw [hm3, HPW.out c2 hm2], S7, G7⟩
        · have z1 : ¬ (i : Int) = 31 := by omega
          have b0 : ((i : Int) == 0) = false := beq_eq_false_iff_ne.mpr z0
          have b1 : ((i : Int) == 31) = false := beq_eq_false_iff_ne.mpr z1
          have HEB := Aside0.mk (fun k (hk : k < 8) => show E / 2 ^ (8 * i + k) % 2 = 255 / 2 ^ k % 2 by rw [HEB0.out k hk, expB, if_neg (by omega), if_neg h31])
          clear HEB0 hz h31
          have hbits : ∀ k : Nat, k < 8 → bits .and .i64 ((255 : Int) / 2 ^ k) 1 = ((E / 2 ^ (8 * i + k) % 2 : Nat) : Int) := fun k hk => by
            rw [HEB.out k hk, and1i]
            simp
          have HBT := Aside0.mk hbits
          clear hbits HEX HEB
          go_wp2
          clear z0 z1 b0 b1
          go_loopg [10] 9 (fun gg2 s10 wr2 => ∃ k2 : Nat, k2 ≤ 8 ∧ k2 ≤ gg2 ∧ s10 = .int .i64 ((k2 : Int) - 1) ∧ ∃ c : Nat, c < BB ∧ c % PP = a ^ (E / 2 ^ (8 * i + k2)) % PP ∧ Aside0 (St w [⟨40, .i64, fe a⟩, ⟨40, .i64, z16⟩] wr2) ∧ Aside0 (wr2.heap[g]? = some (.cells (arr .i64 (fe c)) 40 (0, 0))))
          case atStart => exact ⟨8, Nat.le_refl _, by omega, rfl, c, hc, by rw [hcm, show 8 * (i + 1) = 8 * i + 8 from by omega], S2, G2⟩
          case round =>
            obtain ⟨k2, hk2, hg2, rfl, c, hc, hcm, S3, G3⟩ := hrel
            rcases Nat.eq_zero_or_pos k2 with h0 | h0
            · subst h0
              have e1 : ((0 : Nat) : Int) - 1 = -1 := rfl
              rw [e1]
              rw [Nat.add_zero] at hcm
              go_wp2
              go_roundg i
              case measure => omega
              case rel => exact ⟨i, by omega, Nat.le_refl _, by go_num, c, hc, hcm, S3, G3⟩
            · obtain ⟨k, rfl⟩ : ∃ k, k2 = k + 1 := ⟨k2 - 1, by omega⟩
              have e1 : (((k + 1 : Nat)) : Int) - 1 = (k : Int) := by omega
              rw [e1]
              have k0 : (k : Int) ≥ 0 := by omega
              have k8 : (k : Int) < 8 := by omega
              have k8n : k < 8 := by omega
              have k64 : min k 64 = k := by omega
              have wk : IntKind.u64.wrap (k : Int) = (k : Int) := by rw [IntKind.wrap_u64]; omega
              have hbit := HBT.out k k8n
              have hcm1 : c % PP = a ^ (E / 2 ^ (8 * i + k + 1)) % PP := hcm
              clear e1
              rcases Nat.mod_two_eq_zero_or_one (E / 2 ^ (8 * i + k)) with hb0 | hb0
              · have HPW := Aside0.mk (pow_sq a E (8 * i + k) c hb0 hcm1)
                rw [hb0] at hbit
                have hbit0 : bits .and .i64 ((255 : Int) / 2 ^ k) 1 = 0 := hbit
                clear hbit hb0 hcm hcm1
                go_wp2_with (first
                  | ((with_reducible refine gate_dst (N := 26) rfl ?_); refine ld_arr rfl 40 (.tmp 7) rfl g rfl G3.out Try.underlying40 (m := 16) (by kernel_rfl) (fe_length _) ?_)
                  | ((with_reducible refine gate_dst (N := 27) rfl ?_); refine ld_arr rfl 40 (.tmp 7) rfl g rfl G3.out Try.underlying40 (m := 16) (by kernel_rfl) (fe_length _) ?_)
                  | ((with_reducible refine (spec_l05Mul.calls c c _ hc hc).mono ?_); rintro e w4 ⟨c2, hc2, hm2, rfl, hb⟩; have S4 := Aside0.mk (S3.out.step hb); have G4 := Aside0.mk (blk_below G3.out hb); clear hb)
                  | (refine st_arr rfl 40 (.tmp 7) (.tmp 28) rfl g (xs := fe c2) rfl rfl G4.out (m := 16) (by kernel_rfl) (fe_length _) (by rw [fe_length, fe_length]) ?_; intro w5 h1 h2 h4 h3; have G5 := Aside0.mk h1; have S5 := Aside0.mk (St.other S4.out h2 h3 HG.out); clear h1 h2 h3 h4))
                go_roundg k
                case measure => omega
                case rel => exact ⟨k, by omega, Nat.le_refl _, by go_num, c2, hc2, by rw [hm2, HPW.out], S5, G5⟩
              · have HPW := Aside0.mk (fun y hy => pow_sq1 a E (8 * i + k) c hb0 hcm1 y hy)
                rw [hb0] at hbit
                have hbit0 : bits .and .i64 ((255 : Int) / 2 ^ k) 1 = 1 := hbit
                clear hbit hb0 hcm hcm1
                go_wp2_with (first
                  | ((with_reducible refine gate_dst (N := 26) rfl ?_); refine ld_arr rfl 40 (.tmp 7) rfl g rfl G3.out Try.underlying40 (m := 16) (by kernel_rfl) (fe_length _) ?_)
                  | ((with_reducible refine gate_dst (N := 27) rfl ?_); refine ld_arr rfl 40 (.tmp 7) rfl g rfl G3.out Try.underlying40 (m := 16) (by kernel_rfl) (fe_length _) ?_)
                  | ((with_reducible refine gate_dst (N := 35) rfl ?_); refine ld_arr rfl 40 (.tmp 7) rfl g rfl G5.out Try.underlying40 (m := 16) (by kernel_rfl) (fe_length _) ?_)
                  | ((with_reducible refine gate_dst (N := 36) rfl ?_); refine ld_arr rfl 40 (.tmp 3) rfl w.heap.size rfl (S5.out.blk 0 rfl) Try.underlying40 (m := 16) (by kernel_rfl) (fe_length _) ?_)
                  | ((with_reducible refine (spec_l05Mul.calls c c _ hc hc).mono ?_); rintro e w4 ⟨c2, hc2, hm2, rfl, hb⟩; have S4 := Aside0.mk (S3.out.step hb); have G4 := Aside0.mk (blk_below G3.out hb); clear hb)
                  | (refine st_arr rfl 40 (.tmp 7) (.tmp 28) rfl g (xs := fe c2) rfl rfl G4.out (m := 16) (by kernel_rfl) (fe_length _) (by rw [fe_length, fe_length]) ?_; intro w5 h1 h2 h4 h3; have G5 := Aside0.mk h1; have S5 := Aside0.mk (St.other S4.out h2 h3 HG.out); clear h1 h2 h3 h4)
                  | ((with_reducible refine (spec_l05Mul.calls c2 a _ hc2 HA.out).mono ?_); rintro e w6 ⟨c3, hc3, hm3, rfl, hb⟩; have S6 := Aside0.mk (S5.out.step hb); have G6 := Aside0.mk (blk_below G5.out hb); clear hb)
                  | (refine st_arr rfl 40 (.tmp 7) (.tmp 37) rfl g (xs := fe c3) rfl rfl G6.out (m := 16) (by kernel_rfl) (fe_length _) (by rw [fe_length, fe_length]) ?_; intro w7 h1 h2 h4 h3; have G7 := Aside0.mk h1; have S7 := Aside0.mk (St.other S6.out h2 h3 HG.out); clear h1 h2 h3 h4))
                go_roundg k
                case measure => omega
                case rel => exact ⟨k, by omega, Nat.le_refl _, by go_num, c3, hc3, by rw [hm3, HPW.out c2 hm2], S7, G7⟩


/-! ### spec_l05Inverse: function 67 -/
set_option maxHeartbeats 1000000 in
set_option maxRecDepth 100000 in
theorem spec_l05Inverse.calls (a : Nat) (w : World) (ha : a < BB) :
    Calls Try.prog 67 #[.agg (arr .i64 (fe a))] w fun e w' => ∃ c, c < BB ∧ c % PP = a ^ (PP - 2) % PP ∧ e = .returned (.agg (arr .i64 (fe c))) ∧ Below w.heap.size w w' := by
  have HW := Aside0.mk (fun W => (show Calls Try.prog 94 #[.agg (arr .i64 (fe a)), .int .i64 235, .int .i64 127] W _ from spec_l05Pow.calls a 235 127 W ha (by decide) (by decide)))
  rw [show expN 235 127 = PP - 2 from by decide] at HW
  clear ha
  generalize a ^ (PP - 2) % PP = r at *
  have S := Aside0.mk (((St.start w).push rfl 40 .i64 (fe a)).push (World.size_alloc ..) 40 .i64 z16)
  go_enter Try.func67, Try.ntmps67
  go_wp2_with (first
    | ((with_reducible refine gate_dst (N := 3) rfl ?_); refine ld_arr rfl 40 (.tmp 1) rfl w.heap.size rfl (S.out.blk 0 rfl) Try.underlying40 (m := 16) (by kernel_rfl) (fe_length _) ?_)
    | ((with_reducible refine (HW.out _).mono ?_); rintro e w1 ⟨c, hc, hm, rfl, hb⟩; have S1 := Aside0.mk (S.out.step hb); clear hb)
    | (refine st_arr rfl 40 (.tmp 2) (.tmp 4) rfl (w.heap.size + 1) (xs := fe c) rfl rfl (S1.out.blk 1 rfl) (m := 16) (by kernel_rfl) (fe_length _) (by rw [fe_length]; rfl) ?_; intro w' h1 h2 h4 h3; have H1 := Aside0.mk h1; have S2 := Aside0.mk (S1.out.row 1 rfl h1 h2 h3); clear h1 h2 h3 h4))
  exact bodyPost_ret (results_cell_row Try.results67 _ _ (w.heap.size + 1) 40 _ (0, 0) _ rfl H1.out Try.underlying40 rfl (by rw [arr_size, fe_length]; kernel_rfl)) rfl ⟨c, hc, hm, rfl, S2.out.below⟩


/-! ### spec_l05Base: function 61 -/
def spec_l05Base.f : Option (List Int) := some (limbs 256 32 (4 * (5 ^ (PP - 2) % PP) % PP))
set_option maxHeartbeats 1000000 in
set_option maxRecDepth 100000 in
theorem spec_l05Base.calls (r : List Int) (w : World) (h : spec_l05Base.f = some r) :
    Calls Try.prog 61 #[] w fun e w' => ∃ v0_ : Value, e = .returned (v0_) ∧ Kd.R (Kd.int .u8) 5 w' w.heap.size (fun _ => True) v0_ r ∧ Below w.heap.size w w' := by
  obtain rfl := Option.some.inj h
  clear h
  have HS4 := Aside0.mk (fun W => (show Calls Try.prog 89 #[.int .i64 4] W _ from spec_l05Small.calls 4 W (by decide)))
  have HS5 := Aside0.mk (fun W => (show Calls Try.prog 89 #[.int .i64 5] W _ from spec_l05Small.calls 5 W (by decide)))
  have HI := Aside0.mk (fun W => spec_l05Inverse.calls 5 W (by decide))
  have HM := Aside0.mk (fun c W (hc : c < BB) => spec_l05Mul.calls 4 c W (by decide) hc)
  have HF := Aside0.mk (fun c d (h1 : c % PP = 5 ^ (PP - 2) % PP) (h2 : d % PP = 4 * c % PP) => show d % PP = 4 * (5 ^ (PP - 2) % PP) % PP by rw [h2, Nat.mul_mod, h1, ← Nat.mul_mod, Nat.mul_mod 4 (5 ^ (PP - 2) % PP), Nat.mod_mod, ← Nat.mul_mod])
  generalize 4 * (5 ^ (PP - 2) % PP) % PP = r at *
  generalize 5 ^ (PP - 2) % PP = q at *
  have B0 := Aside0.mk (Below.refl w.heap.size w)
  go_enter Try.func61, Try.ntmps61
  go_wp2_with (first
    | ((with_reducible refine (HS4.out _).mono ?_); rintro e w1 ⟨rfl, hb⟩; have B1 := Aside0.mk (below_step B0.out hb); clear hb)
    | ((with_reducible refine (HS5.out _).mono ?_); rintro e w2 ⟨rfl, hb⟩; have B2 := Aside0.mk (below_step B1.out hb); clear hb)
    | ((with_reducible refine (HI.out _).mono ?_); rintro e w3 ⟨c, hc, hm, rfl, hb⟩; have B3 := Aside0.mk (below_step B2.out hb); clear hb)
    | ((with_reducible refine (HM.out c _ hc).mono ?_); rintro e w4 ⟨d, hd, hm2, rfl, hb⟩; have B4 := Aside0.mk (below_step B3.out hb); clear hb)
    | ((with_reducible refine (bytes_fe d _ hd).mono ?_); rintro e w5 ⟨v, rfl, hR, hb⟩; rw [HF.out c d hm hm2] at hR; have HR := Aside0.mk (Kd.R_lower hR (below_size B4.out)); have B5 := Aside0.mk (below_step B4.out hb); clear hb hR))
  go_ret
  exact ⟨_, rfl, HR.out, B5.out⟩


/-! ### spec_BasePoint: function 29 -/
def spec_BasePoint.f  : Option (List Int) := (spec_l05Base.f).bind fun t105 => (some t105)
set_option maxHeartbeats 8000000 in
set_option maxRecDepth 100000 in
theorem spec_BasePoint.calls  (r : List Int) (w : World) (h : spec_BasePoint.f  = some r) :
    Calls Try.prog 29 #[] w fun e w' => ∃ v0_ : Value, e = .returned (v0_) ∧ Kd.R (Kd.int .u8) 5 w' w.heap.size (fun _ => True) v0_ r ∧ Below w.heap.size w w' := by
  have HB := Aside0.mk (Below.refl w.heap.size w)
  have H : ((spec_l05Base.f).bind fun t105 => (some t105)) = some r := h
  clear h
  replace H := Option.bind_eq_some_iff.mp H
  obtain ⟨t105, A10, H⟩ := H
  replace H : (some t105) = some r := H
  have A1 := Aside0.mk A10
  clear A10
  obtain rfl := Option.some.inj H
  go_enter Try.func29, Try.ntmps29
  go_wp2_with (first | ((with_reducible refine gate_callee (f := 61) rfl ?_); refine goesL_ (some 1) rfl rfl Try.func61 (by kernel_rfl) rfl #[] rfl (by (try simp only [List.map_toArray, List.map_cons, List.map_nil]); first | done | rfl | (simp only [List.length_drop, List.length_take]; rfl)) ?_; (with_reducible refine (spec_l05Base.calls  t105 _ A1.out).mono ?_); rintro e w2 ⟨v106, rfl, ho0, hb⟩; refine ⟨_, rfl, ?_⟩; have n0_ := Aside0.mk (Kd.R_lower ho0 (below_size (by repeat (first | (with_reducible first | exact HB.out | apply below_alloc | apply pw_below_drewN | apply below_drew1) | exact HB.out)))); have n1_ := Aside0.mk (below_step (by repeat (first | (with_reducible first | exact HB.out | apply below_alloc | apply pw_below_drewN | apply below_drew1) | exact HB.out)) hb); clear HB; have HO107 := n0_; have HB := n1_; clear n0_ n1_; (try clear hb); (try clear hb2); (try clear hk); (try clear hi); (try clear ho0)))
  go_ret
  exact ⟨_, by first | rfl | (simp [errW_none, errW_some] <;> rfl) | (simp [*, errW_none, errW_some] <;> rfl), by (with_reducible repeat (first | apply Kd.R_alloc | apply Kd.R_drewN | apply Kd.R_drew)); exact HO107.out, by repeat (first | (with_reducible first | exact HB.out | apply below_alloc | apply pw_below_drewN | apply below_drew1) | exact HB.out)⟩

/-! ### bits_Add64: function 103 -/
theorem add64_calls (x y c : Int) (hx : 0 ≤ x) (hy : 0 ≤ y) (hc0 : 0 ≤ c) (hc : c ≤ 1) (w : World) :
   (callFunc 103 #[.int .u64 x, .int .u64 y, .int .u64 c]).run Try.prog w = .ok (.value (.tuple #[.int .u64 ((x + y + c) % 18446744073709551616), .int .u64 ((x + y + c) / 18446744073709551616)])) w := by
  rw [run_callFunc_extern (fn := Try.f103) (e := add64Entry) Try.func103 (by rfl) (by rfl) (by kernel_rfl) (by kernel_rfl), run_add64 x y c hx hy hc0 hc]
  rfl


/-! ### bits_Mul64: function 106 -/
set_option maxHeartbeats 1000000 in
set_option maxRecDepth 100000 in
theorem mul64I.calls (x y : Int) (hx0 : 0 ≤ x) (hx : x < 18446744073709551616) (hy0 : 0 ≤ y) (hy : y < 18446744073709551616) (w : World) :
    Calls Try.prog 106 #[.int .u64 x, .int .u64 y] w fun e w' => e = .returned (.tuple #[.int .u64 (x * y / 18446744073709551616), .int .u64 (x * y % 18446744073709551616)]) ∧ w' = w := by
  have e := mul64_arith x y hx0 hx hy0 hy
  have A := and_low32 x hx0 hx
  have B := and_low32 y hy0 hy
  rw [← e]
  clear e
  have E := Aside0.mk A
  have F := Aside0.mk B
  clear A B
  go_enter Try.func106, Try.ntmps106
  go_wp2
  go_ret2
  refine ⟨?_, rfl⟩
  simp only [E.out, F.out, IntKind.wrap_u64]
  rw [and_low32 _ (by omega) (by omega)]
  rfl


/-! ### impl_number_times: function 88 -/
set_option maxHeartbeats 1000000 in
set_option maxRecDepth 100000 in
theorem impl_number_times.calls (x y : Nat) (w : World) (hx : x < BB) (hy : y < BB) :
    Calls Try.prog 88 #[.agg (arr .u64 (num x)), .agg (arr .u64 (num y))] w fun e w' => e = .returned (.agg (arr .u64 (wid (x * y)))) ∧ Below w.heap.size w w' := by
  rw [← tm_wid x y hx hy]
  obtain ⟨M4, hM4⟩ : ∃ l, l = tmW (num x) (num y) 4 := ⟨_, rfl⟩
  rw [← hM4]
  have HM4 := Aside0.mk hM4
  clear hM4
  have LX := Aside0.mk (num_length x)
  have LY := Aside0.mk (num_length y)
  have OX := Aside0.mk (num_ok x)
  have OY := Aside0.mk (num_ok y)
  have LW := Aside0.mk (tmW_length (num x) (num y))
  have LR := Aside0.mk (fun i k => (tmR_length (num x) (num y) (tmW (num x) (num y) i) i k).trans (tmW_length _ _ i))
  have OR := Aside0.mk (fun i (hi : i < 4) k hk => tmR_ok x y i hi _ (tmW_ok x y i (by omega)) (tmW_length _ _ i) k hk)
  have SW := Aside0.mk (fun i => show tmW (num x) (num y) (i + 1) = (tmR (num x) (num y) i (tmW (num x) (num y) i) 4).1.set (i + 4) (tmR (num x) (num y) i (tmW (num x) (num y) i) 4).2 from by simp only [tmW])
  have S := Aside0.mk (((((St.start w).push rfl 36 .u64 (num x)).push (World.size_alloc ..) 36 .u64 (num y)).push (by rw [World.size_alloc, World.size_alloc]; rfl) 74 .u64 z8).push (by rw [World.size_alloc, World.size_alloc, World.size_alloc]; rfl) 74 .u64 z8)
  go_enter Try.func88, Try.ntmps88
  go_wp2_with (first
    | ((with_reducible refine gate_dst (N := 14) rfl ?_); refine ld_arr rfl 36 (.tmp 2) rfl w.heap.size rfl (S.out.blk 0 rfl) Try.underlying36 (m := 4) (by kernel_rfl) (num_length _) ?_))
  go_loopg [6, 7, 15] 4 (fun gg _ _ v15 wr => ∃ i : Nat, i ≤ 4 ∧ 4 - i ≤ gg ∧ v15 = .int .i64 i ∧ Aside0 (St w [⟨36, .u64, num x⟩, ⟨36, .u64, num y⟩, ⟨74, .u64, z8⟩, ⟨74, .u64, tmW (num x) (num y) i⟩] wr))
  case atStart => exact ⟨0, by omega, by omega, rfl, S⟩
  case round =>
    obtain ⟨i, hi, hg, rfl, S1⟩ := hrel
    by_cases hlt : i < 4
    · have hlti : (i : Int) < 4 := by omega
      have a := getD_range OX.out i (by rw [LX.out]; omega)
      have a1 := a.1
      have a2 : (num x).getD i 0 < 18446744073709551616 := a.2
      clear a
      have hix : ∀ W, (Instr.index 36 (.agg (arr .u64 (num x))) (.int .i64 (i : Int))).run Try.prog W = .ok (.int .u64 ((num x).getD i 0)) W := fun W => run_index_arr 36 34 4 .u64 (num x) i Try.underlying36 .u64 Try.underlying34 (by kernel_rfl) hlt LX.out
      have ER := Aside0.mk (fun k => show tmR (num x) (num y) i (tmW (num x) (num y) i) (k + 1) = ((tmR (num x) (num y) i (tmW (num x) (num y) i) k).1.set (i + k) (((num x).getD i 0 * (num y).getD k 0 + (tmR (num x) (num y) i (tmW (num x) (num y) i) k).1.getD (i + k) 0 + (tmR (num x) (num y) i (tmW (num x) (num y) i) k).2) % 18446744073709551616), ((num x).getD i 0 * (num y).getD k 0 + (tmR (num x) (num y) i (tmW (num x) (num y) i) k).1.getD (i + k) 0 + (tmR (num x) (num y) i (tmW (num x) (num y) i) k).2) / 18446744073709551616) from rfl)
      have ORi := Aside0.mk (fun k hk => OR.out i hlt k hk)
      have LRi := Aside0.mk (fun k => LR.out i k)
      have E0 := Aside0.mk (show tmR (num x) (num y) i (tmW (num x) (num y) i) 0 = (tmW (num x) (num y) i, 0) from rfl)
      have SWi := Aside0.mk (SW.out i)
      generalize (num x).getD i 0 = a at *
      generalize tmR (num x) (num y) i (tmW (num x) (num y) i) = R at *
      go_wp2_with (first
        | ((with_reducible refine gate_dst (N := 19) rfl ?_); refine ld_arr rfl 36 (.tmp 3) rfl (w.heap.size + 1) rfl (S1.out.blk 1 rfl) Try.underlying36 (m := 4) (by kernel_rfl) (num_length _) ?_))
      go_loopg [8, 9, 10, 11, 12, 13, 20] 4 (fun gg2 v8 _ _ _ _ _ v20 wr2 => ∃ k : Nat, k ≤ 4 ∧ 4 - k ≤ gg2 ∧ v20 = .int .i64 k ∧ v8 = .int .u64 (R k).2 ∧ Aside0 (St w [⟨36, .u64, num x⟩, ⟨36, .u64, num y⟩, ⟨74, .u64, z8⟩, ⟨74, .u64, (R k).1⟩] wr2))
      case atStart => exact ⟨0, by omega, by omega, rfl, by rw [E0.out], by rw [E0.out]; exact S1⟩
      case round =>
        obtain ⟨k, hk, hg2, rfl, rfl, S2⟩ := hrel
        obtain ⟨o1, o2, o3⟩ := ORi.out k hk
        by_cases hlt2 : k < 4
        · have hlti2 : (k : Int) < 4 := by omega
          have b := getD_range OY.out k (by rw [LY.out]; omega)
          have b1 := b.1
          have b2 : (num y).getD k 0 < 18446744073709551616 := b.2
          clear b
          have hiy : ∀ W, (Instr.index 36 (.agg (arr .u64 (num y))) (.int .i64 (k : Int))).run Try.prog W = .ok (.int .u64 ((num y).getD k 0)) W := fun W => run_index_arr 36 34 4 .u64 (num y) k Try.underlying36 .u64 Try.underlying34 (by kernel_rfl) hlt2 LY.out
          have hc1 := S2.out.cell 3 rfl (i + k) (by rw [LRi.out]; omega)
          have hf1 := blk_frozen (S2.out.blk 3 rfl) (i + k)
          have q := getD_range o1 (i + k) (by rw [LRi.out]; omega)
          have q1 := q.1
          have q2 : (R k).1.getD (i + k) 0 < 18446744073709551616 := q.2
          clear q
          have P0 := Aside0.mk (fun v => S2.out.set 3 rfl (i + k) v)
          have EQ := Aside0.mk (ER.out k)
          obtain ⟨j, hj⟩ : ∃ j : Nat, j = i + k := ⟨_, rfl⟩
          have hj1 : (i : Int) + (k : Int) = (j : Int) := by omega
          have hj2 : (j : Int) < 8 := by omega
          rw [← hj] at hc1 hf1 P0 EQ q1 q2
          clear hj o1
          generalize (R k).1.getD j 0 = o at *
          generalize (num y).getD k 0 = b at *
          generalize (R k).2 = c at *
          have hp := prod64 a b ⟨a1, a2⟩ ⟨b1, b2⟩
          have HM := Aside0.mk (fun W => mul64I.calls a b a1 a2 b1 b2 W)
          generalize a * b = p at *
          obtain ⟨ph, eph⟩ : ∃ ph, ph = p / 18446744073709551616 := ⟨_, rfl⟩
          obtain ⟨pl, epl⟩ : ∃ pl, pl = p % 18446744073709551616 := ⟨_, rfl⟩
          rw [← eph, ← epl] at HM
          have hadd1 := fun W => add64_calls pl o 0 (by omega) q1 (by omega) (by omega) W
          obtain ⟨s1, es1⟩ : ∃ s1, s1 = (pl + o + 0) % 18446744073709551616 := ⟨_, rfl⟩
          obtain ⟨c1, ec1⟩ : ∃ c1, c1 = (pl + o + 0) / 18446744073709551616 := ⟨_, rfl⟩
          rw [← es1, ← ec1] at hadd1
          have hadd2 := fun W => add64_calls s1 c 0 (by omega) o2 (by omega) (by omega) W
          obtain ⟨s2, es2⟩ : ∃ s2, s2 = (s1 + c + 0) % 18446744073709551616 := ⟨_, rfl⟩
          obtain ⟨c2, ec2⟩ : ∃ c2, c2 = (s1 + c + 0) / 18446744073709551616 := ⟨_, rfl⟩
          rw [← es2, ← ec2] at hadd2
          have w1 : 0 ≤ ph + c1 := by omega
          have w2 : ph + c1 < 18446744073709551616 := by omega
          have w3 : 0 ≤ ph + c1 + c2 := by omega
          have w4 : ph + c1 + c2 < 18446744073709551616 := by omega
          have f1 : (p + o + c) % 18446744073709551616 = s2 := by omega
          have f2 : (p + o + c) / 18446744073709551616 = ph + c1 + c2 := by omega
          rw [f1, f2] at EQ
          have P := Aside0.mk (P0.out s2)
          clear f1 f2 es1 ec1 es2 ec2 eph epl hp P0
          go_wp2_with ((with_reducible refine (HM.out _).mono ?_); rintro e w1 ⟨rfl, rfl⟩)
          go_roundg (4 - (k + 1))
          case measure => omega
          case rel => exact ⟨k + 1, by omega, by omega, by go_num, by rw [EQ.out], by rw [EQ.out]; exact P⟩
        · have hk4 : k = 4 := by omega
          subst hk4
          have hneg : ¬ ((4 : Nat) : Int) < 4 := by omega
          obtain ⟨j, hj⟩ : ∃ j : Nat, j = i + 4 := ⟨_, rfl⟩
          have hj1 : (i : Int) + 4 = (j : Int) := by omega
          have hj2 : (j : Int) < 8 := by omega
          have hc1 := S2.out.cell 3 rfl j (by rw [LRi.out]; omega)
          have hf1 := blk_frozen (S2.out.blk 3 rfl) j
          have P := Aside0.mk (S2.out.set 3 rfl j (R 4).2)
          have EQ := SWi
          rw [← hj] at EQ
          clear hj o1
          generalize (R 4).2 = c at *
          go_wp2
          go_roundg (4 - (i + 1))
          case measure => omega
          case rel => exact ⟨i + 1, by omega, by omega, by go_num, by rw [EQ.out]; exact P⟩
    · have hi4 : i = 4 := by omega
      subst hi4
      have hneg : ¬ ((4 : Nat) : Int) < 4 := by omega
      have l := LW.out 4
      rw [← HM4.out] at S1 l
      have L := Aside0.mk l
      clear l
      go_wp2_with (first
        | ((with_reducible refine gate_dst (N := 64) rfl ?_); refine ld_arr rfl 74 (.tmp 5) rfl (w.heap.size + 3) rfl (S1.out.blk 3 rfl) Try.underlying74 (m := 8) (by kernel_rfl) L.out ?_)
        | (refine st_arr rfl 74 (.tmp 4) (.tmp 64) rfl (w.heap.size + 2) (xs := M4) rfl rfl (S1.out.blk 2 rfl) (m := 8) (by kernel_rfl) L.out (by rw [L.out]; rfl) ?_; intro w' h1 h2 h4 h3; have H1 := Aside0.mk h1; have S4 := Aside0.mk (S1.out.row 2 rfl h1 h2 h3); clear h1 h2 h3 h4))
      exact bodyPost_ret (results_cell_row Try.results88 _ _ (w.heap.size + 2) 74 _ (0, 0) _ rfl H1.out Try.underlying74 rfl (by rw [arr_size, L.out]; kernel_rfl)) rfl ⟨rfl, S4.out.below⟩


/-! ### impl_number_plus: function 82 -/
def plusS (xs ys : List Int) : Nat → List Int × Int
  | 0 => (xs, 0)
  | k + 1 => ((plusS xs ys k).1.set k (((plusS xs ys k).1.getD k 0 + ys.getD k 0 + (plusS xs ys k).2) % 18446744073709551616), ((plusS xs ys k).1.getD k 0 + ys.getD k 0 + (plusS xs ys k).2) / 18446744073709551616)
theorem plusS_ok (xs ys : List Int) (hx : Ok P64 xs) (hy : Ok P64 ys) (lx : xs.length = 4) (ly : ys.length = 4) (k : Nat) (hk : k ≤ 4) : Ok P64 (plusS xs ys k).1 ∧ (plusS xs ys k).1.length = 4 ∧ 0 ≤ (plusS xs ys k).2 ∧ (plusS xs ys k).2 ≤ 1 := by
  induction k with
  | zero => exact ⟨hx, lx, by simp [plusS], by simp [plusS]⟩
  | succ k ih =>
    obtain ⟨h1, h2, h3, h4⟩ := ih (by omega)
    have a := getD_range h1 k (by omega)
    have b := getD_range hy k (by omega)
    simp only [P64] at a b
    refine ⟨ok_set h1 k _ (by omega) (by simp only [P64]; omega), by simp [plusS, h2], by simp only [plusS]; omega, by simp only [plusS]; omega⟩
theorem plusS_val (x y : Nat) : (plusS (num x) (num y) 4).1 = num (x + y) ∧ (plusS (num x) (num y) 4).2 = (((x % P64 ^ 4 + y % P64 ^ 4) / P64 ^ 4 : Nat) : Int) := by
  have hx := num_val x
  have hy := num_val y
  obtain ⟨o1, o2, o3, o4⟩ := plusS_ok (num x) (num y) (num_ok x) (num_ok y) (num_length x) (num_length y) 4 (by omega)
  have hv : lval P64 (plusS (num x) (num y) 4).1 + (P64 : Int) ^ 4 * (plusS (num x) (num y) 4).2 = lval P64 (num x) + lval P64 (num y) := by
    have lx := num_length x
    have ly := num_length y
    revert lx ly
    generalize num x = xs
    generalize num y = ys
    intro lx ly
    match xs, ys, lx, ly with
    | [a0, a1, a2, a3], [b0, b1, b2, b3], _, _ =>
      simp only [plusS, lval, P64, List.set_cons_succ, List.set_cons_zero, List.getD_cons_succ, List.getD_cons_zero]
      omega
  have hM : (P64 : Int) ^ 4 = ((P64 ^ 4 : Nat) : Int) := by simp
  rw [hx, hy, hM] at hv
  have hlt : lval P64 (plusS (num x) (num y) 4).1 < ((P64 ^ 4 : Nat) : Int) := by
    have h := lval_limbs P64 (by decide) 4 (lval P64 (plusS (num x) (num y) 4).1).toNat
    have h2 := limbs_lval P64 (by decide) _ o1
    rw [o2] at h2
    rw [h2] at h
    have := Nat.mod_lt (lval P64 (plusS (num x) (num y) 4).1).toNat (show 0 < P64 ^ 4 by decide)
    omega
  have h0 := lval_nonneg P64 _ o1
  have hMp : P64 ^ 4 = 115792089237316195423570985008687907853269984665640564039457584007913129639936 := by decide
  rw [hMp] at hv hlt ⊢
  have e2 : (plusS (num x) (num y) 4).2 = (((x % 115792089237316195423570985008687907853269984665640564039457584007913129639936 + y % 115792089237316195423570985008687907853269984665640564039457584007913129639936) / 115792089237316195423570985008687907853269984665640564039457584007913129639936 : Nat) : Int) := by omega
  refine ⟨eq_num o1 o2 (x + y) ?_, e2⟩
  rw [hMp]
  omega

set_option maxHeartbeats 2000000 in
theorem impl_number_plus.calls (x y : Nat) (w : World) :
    Calls Try.prog 82 #[.agg (arr .u64 (num x)), .agg (arr .u64 (num y))] w fun e w' => e = .returned (.tuple #[.agg (arr .u64 (num (x + y))), .int .u64 (((x % P64 ^ 4 + y % P64 ^ 4) / P64 ^ 4 : Nat) : Int)]) ∧ Below w.heap.size w w' := by
  obtain ⟨V1, V2⟩ := plusS_val x y
  rw [← V1, ← V2]
  clear V1 V2
  obtain ⟨xs, hxs⟩ : ∃ l, l = num x := ⟨_, rfl⟩
  obtain ⟨ys, hys⟩ : ∃ l, l = num y := ⟨_, rfl⟩
  have HX := Aside0.mk (hxs ▸ num_length x)
  have HY := Aside0.mk (hys ▸ num_length y)
  have UX := Aside0.mk (hxs ▸ num_ok x)
  have UY := Aside0.mk (hys ▸ num_ok y)
  rw [← hxs, ← hys]
  clear hxs hys
  go_enter Try.func82, Try.ntmps82
  go_wp2
  go_loopg [6, 7, 8] 4 (fun gg v6 _ v8 wr => ∃ k : Nat, k ≤ 4 ∧ 4 - k ≤ gg ∧ v8 = .int .i64 k ∧ v6 = .int .u64 (plusS xs ys k).2 ∧ Aside0 (wr.heap[w.heap.size]? = some (.cells (arr .u64 (plusS xs ys k).1) 36 (0, 0))) ∧ Aside0 (wr.heap[w.heap.size + 1]? = some (.cells (arr .u64 ys) 36 (0, 0))) ∧ Aside0 (wr.heap[w.heap.size + 2]? = some (.cells (arr .u64 [0, 0, 0, 0]) 36 (0, 0))) ∧ Aside0 (Below w.heap.size w wr))
  case atStart =>
    have b1 : Below w.heap.size w (w.alloc (.cells (arr .u64 xs) 36)) := below_alloc (Below.refl _ _) _
    have b2 := below_alloc b1 (.cells (arr .u64 ys) 36)
    have b3 := below_alloc b2 (.cells (arr .u64 [0, 0, 0, 0]) 36)
    refine ⟨0, by omega, by omega, rfl, rfl, ⟨blk_alloc (blk_alloc (blk_new _ _) _) _⟩, ⟨?_⟩, ⟨?_⟩, ⟨b3⟩⟩
    · have := blk_new (w.alloc (.cells (arr .u64 xs) 36)) (.cells (arr .u64 ys) 36)
      rw [World.size_alloc] at this
      exact blk_alloc this _
    · have := blk_new ((w.alloc (.cells (arr .u64 xs) 36)).alloc (.cells (arr .u64 ys) 36)) (.cells (arr .u64 [0, 0, 0, 0]) 36)
      rw [World.size_alloc, World.size_alloc] at this
      exact this
  case round =>
    obtain ⟨k, hk, hg, rfl, rfl, B0, B1, B2, HB⟩ := hrel
    obtain ⟨o1, o2, o3, o4⟩ := plusS_ok xs ys UX.out UY.out HX.out HY.out k hk
    by_cases hlt : k < 4
    · have hlti : (k : Int) < 4 := by omega
      have hc1 := blk_get B0.out k (by omega)
      have hc2 := blk_get B1.out k (by have := HY.out; omega)
      have hf1 := blk_frozen B0.out k
      have a := getD_range o1 k (by omega)
      have b := getD_range UY.out k (by have := HY.out; omega)
      have hadd := fun W => add64_calls _ _ _ a.1 b.1 o3 o4 W
      have P0 := Aside0.mk (blk_upd B0.out k (((plusS xs ys k).1.getD k 0 + ys.getD k 0 + (plusS xs ys k).2) % 18446744073709551616))
      have EQ := Aside0.mk (show plusS xs ys (k + 1) = ((plusS xs ys k).1.set k (((plusS xs ys k).1.getD k 0 + ys.getD k 0 + (plusS xs ys k).2) % 18446744073709551616), ((plusS xs ys k).1.getD k 0 + ys.getD k 0 + (plusS xs ys k).2) / 18446744073709551616) from rfl)
      clear o1 o2 o3 o4 a b
      generalize (plusS xs ys k).1.getD k 0 = x at *
      generalize ys.getD k 0 = y at *
      have PB := Aside0.mk (below_set (j := k) (v := .int .u64 ((x + y + (plusS xs ys k).2) % 18446744073709551616)) HB.out (Nat.le_refl _))
      go_wp2
      go_region
      go_wp2
      go_roundg (4 - (k + 1))
      case measure => omega
      case rel =>
        exact ⟨k + 1, by omega, by omega, by go_num, by rw [EQ.out], by rw [EQ.out]; exact ⟨blk_drew P0.out⟩, ⟨blk_drew (blk_far B1.out (by simp) _)⟩, ⟨blk_drew (blk_far B2.out (by simp) _)⟩, ⟨below_drew PB.out⟩⟩
    · obtain rfl : k = 4 := by omega
      have hneg : ¬ ((4 : Nat) : Int) < 4 := by omega
      have L := Aside0.mk o2
      clear o1 o2 o3 o4
      go_wp2_with (first
        | ((with_reducible refine gate_dst (N := 25) rfl ?_); refine ld_arr rfl 36 (.tmp 2) rfl w.heap.size rfl B0.out Try.underlying36 (m := 4) (by kernel_rfl) L.out ?_)
        | (refine st_arr rfl 36 (.tmp 4) (.tmp 25) rfl (w.heap.size + 2) (xs := (plusS xs ys 4).1) rfl rfl B2.out (m := 4) (by kernel_rfl) L.out (by rw [L.out]; rfl) ?_; intro w' h1 h2 h4 h3; have H1 := Aside0.mk h1; have H3 := Aside0.mk h3; clear h1 h2 h3 h4))
      exact bodyPost_ret (results_ct Try.results82 _ _ (w.heap.size + 2) 36 _ (0, 0) _ rfl H1.out Try.underlying36 rfl (by rw [arr_size, L.out]; kernel_rfl)) rfl ⟨rfl, H3.out _ _ HB.out (by omega)⟩


/-! ### impl_number_less: function 76 -/
theorem less_at (xs ys : List Int) (ox : Ok P64 xs) (oy : Ok P64 ys) (lx : xs.length = 4) (ly : ys.length = 4) (k : Nat) (hk : k < 4) (he : ∀ j, k < j → j < 4 → xs.getD j 0 = ys.getD j 0) (hn : xs.getD k 0 ≠ ys.getD k 0) :
    decide (lval P64 xs < lval P64 ys) = decide (xs.getD k 0 < ys.getD k 0) := by
  match xs, ys, lx, ly with
  | [a0, a1, a2, a3], [b0, b1, b2, b3], _, _ =>
    have h1 := he 1; have h2 := he 2; have h3 := he 3
    have p0 := ox a0 (by simp); have p1 := ox a1 (by simp); have p2 := ox a2 (by simp); have p3 := ox a3 (by simp)
    have q0 := oy b0 (by simp); have q1 := oy b1 (by simp); have q2 := oy b2 (by simp); have q3 := oy b3 (by simp)
    simp only [List.getD_cons_succ, List.getD_cons_zero] at h1 h2 h3
    simp only [P64] at p0 p1 p2 p3 q0 q1 q2 q3
    rw [Bool.eq_iff_iff, decide_eq_true_iff, decide_eq_true_iff]
    simp only [lval, P64]
    have : k = 0 ∨ k = 1 ∨ k = 2 ∨ k = 3 := by omega
    rcases this with rfl | rfl | rfl | rfl <;> simp only [List.getD_cons_succ, List.getD_cons_zero] at hn ⊢ <;> omega
theorem less_eq (xs ys : List Int) (lx : xs.length = 4) (ly : ys.length = 4) (he : ∀ j, j < 4 → xs.getD j 0 = ys.getD j 0) : decide (lval P64 xs < lval P64 ys) = false := by
  match xs, ys, lx, ly with
  | [a0, a1, a2, a3], [b0, b1, b2, b3], _, _ =>
    have h0 := he 0; have h1 := he 1; have h2 := he 2; have h3 := he 3
    simp only [List.getD_cons_succ, List.getD_cons_zero] at h0 h1 h2 h3
    rw [decide_eq_false_iff_not]
    simp only [lval, P64]
    omega

set_option maxHeartbeats 2000000 in
theorem impl_number_less.calls (x y : Nat) (w : World) :
    Calls Try.prog 76 #[.agg (arr .u64 (num x)), .agg (arr .u64 (num y))] w fun e w' => e = .returned (.bool (decide (x % P64 ^ 4 < y % P64 ^ 4))) ∧ Below w.heap.size w w' := by
  have V : decide (x % P64 ^ 4 < y % P64 ^ 4) = decide (lval P64 (num x) < lval P64 (num y)) := by
    rw [num_val, num_val, Bool.eq_iff_iff, decide_eq_true_iff, decide_eq_true_iff]; omega
  rw [V]
  clear V
  obtain ⟨xs, hxs⟩ : ∃ l, l = num x := ⟨_, rfl⟩
  obtain ⟨ys, hys⟩ : ∃ l, l = num y := ⟨_, rfl⟩
  have HX := Aside0.mk (hxs ▸ num_length x)
  have HY := Aside0.mk (hys ▸ num_length y)
  have UX := Aside0.mk (hxs ▸ num_ok x)
  have UY := Aside0.mk (hys ▸ num_ok y)
  rw [← hxs, ← hys]
  clear hxs hys
  go_enter Try.func76, Try.ntmps76
  go_wp2
  go_loopg [4, 5] 4 (fun gg _ v5 wr => ∃ k : Nat, k ≤ 4 ∧ k ≤ gg ∧ v5 = .int .i64 ((k : Int) - 1) ∧ Aside0 (∀ j, k ≤ j → j < 4 → xs.getD j 0 = ys.getD j 0) ∧ Aside0 (wr.heap[w.heap.size]? = some (.cells (arr .u64 xs) 36 (0, 0))) ∧ Aside0 (wr.heap[w.heap.size + 1]? = some (.cells (arr .u64 ys) 36 (0, 0))) ∧ Aside0 (Below w.heap.size w wr))
  case atStart =>
    have b1 : Below w.heap.size w (w.alloc (.cells (arr .u64 xs) 36)) := below_alloc (Below.refl _ _) _
    have b2 := below_alloc b1 (.cells (arr .u64 ys) 36)
    refine ⟨4, by omega, by omega, rfl, ⟨fun j h1 h2 => by omega⟩, ⟨blk_alloc (blk_new _ _) _⟩, ⟨?_⟩, ⟨b2⟩⟩
    have := blk_new (w.alloc (.cells (arr .u64 xs) 36)) (.cells (arr .u64 ys) 36)
    rw [World.size_alloc] at this
    exact this
  case round =>
    obtain ⟨k, hk, hg, rfl, HE, B0, B1, HB⟩ := hrel
    cases k with
    | zero =>
      have hneg : ¬ (0 : Int) ≤ ((0 : Nat) : Int) - 1 := by omega
      have LE := Aside0.mk (less_eq xs ys HX.out HY.out (fun j h => HE.out j (by omega) h))
      go_wp2
      go_ret
      exact ⟨by rw [LE.out]; rfl, HB.out⟩
    | succ k =>
      have hc1 := blk_get B0.out k (by have := HX.out; omega)
      have hc2 := blk_get B1.out k (by have := HY.out; omega)
      have LA := Aside0.mk (less_at xs ys UX.out UY.out HX.out HY.out k (by omega) (fun j h1 h2 => HE.out j (by omega) h2))
      have hidx : ((k + 1 : Nat) : Int) - 1 = (k : Int) := by omega
      have h0 : (0 : Int) ≤ (k : Int) := by omega
      have h4 : (k : Int) < 4 := by omega
      by_cases heq : xs.getD k 0 = ys.getD k 0
      · have HE2 := Aside0.mk (show ∀ j, k ≤ j → j < 4 → xs.getD j 0 = ys.getD j 0 from fun j h1 h2 => by
          by_cases e : j = k
          · rw [e]; exact heq
          · exact HE.out j (by omega) h2)
        have hq : (xs.getD k 0 != ys.getD k 0) = false := by rw [heq]; simp
        rw [hidx]
        clear heq hidx
        generalize xs.getD k 0 = a at *
        generalize ys.getD k 0 = b at *
        go_wp2
        go_region
        go_wp2
        go_roundg k
        case measure => omega
        case rel => exact ⟨k, by omega, by omega, rfl, HE2, ⟨blk_drew B0.out⟩, ⟨blk_drew B1.out⟩, ⟨below_drew HB.out⟩⟩
      · have hq : (xs.getD k 0 != ys.getD k 0) = true := by simpa using heq
        have LQ := Aside0.mk (LA.out heq)
        rw [hidx]
        clear heq hidx
        generalize xs.getD k 0 = a at *
        generalize ys.getD k 0 = b at *
        go_wp2
        go_region
        go_wp2
        go_region
        go_wp2
        go_ret
        exact ⟨by rw [LQ.out]; rfl, below_drew (below_drew HB.out)⟩


/-! ### impl_prime: function 77 -/
set_option maxHeartbeats 400000 in
set_option maxRecDepth 100000 in
theorem impl_prime.calls (w : World) :
    Calls Try.prog 77 #[] w fun e w' => e = .returned (.agg (arr .u64 (num PP))) ∧ Below w.heap.size w w' := by
  rw [num_PP]
  have S0 := Aside0.mk ((St.start w).push rfl 36 .u64 z4)
  go_enter Try.func77, Try.ntmps77
  go_wp2_with (refine st_arr rfl 36 (.tmp 0) (.tmp 1) rfl w.heap.size (k := .u64) (xs := [18446744073709551597, 18446744073709551615, 18446744073709551615, 9223372036854775807]) rfl rfl (S0.out.blk 0 rfl) (m := 4) (by kernel_rfl) rfl rfl ?_; intro w' h1 h2 h4 h3; have H1 := Aside0.mk h1; have H3 := Aside0.mk (S0.out.row 0 rfl h1 h2 h3); clear h1 h2 h3 h4)
  exact bodyPost_ret (results_cell_row Try.results77 _ _ w.heap.size 36 _ (0, 0) _ rfl H1.out Try.underlying36 rfl (by kernel_rfl)) rfl ⟨rfl, H3.out.below⟩


-- NOT PRINTED: function 104 (bits_Sub64)

end Go.Proofs.Ytijeackkgcnbgaa.XT
