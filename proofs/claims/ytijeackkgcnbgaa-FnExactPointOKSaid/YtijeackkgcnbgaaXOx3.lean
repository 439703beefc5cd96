-- Written by a program of this session (xp.py over the kit's printer, with functions proved by hand). Lean checks it.
import Derived.Test.YtijeackkgcnbgaaXOx0
import Derived.Test.YtijeackkgcnbgaaXOx1
import Derived.Test.YtijeackkgcnbgaaXOx2
namespace Go.Proofs.Ytijeackkgcnbgaa.XO
open Go.Proofs.Ytijeackkgcnbgaa.Limb Go.Proofs.Ytijeackkgcnbgaa.Arr Go.Proofs.Ytijeackkgcnbgaa.FldA Go.Proofs.Ytijeackkgcnbgaa.FldB Go.Proofs.Ytijeackkgcnbgaa.FldC Go.Proofs.Ytijeackkgcnbgaa.FldS Go.Proofs.Ytijeackkgcnbgaa.FldP Go.Proofs.Ytijeackkgcnbgaa.FldW Go.Proofs.Ytijeackkgcnbgaa.FldM Go.Proofs.Ytijeackkgcnbgaa.FldT Go.Proofs.Ytijeackkgcnbgaa.FldRoot Go.Proofs.Ytijeackkgcnbgaa.FldRoot2 Go.Proofs.Ytijeackkgcnbgaa.FldPt Go.Proofs.Ytijeackkgcnbgaa.St Go.Proofs.Ytijeackkgcnbgaa.StOps Go.Proofs.Ytijeackkgcnbgaa.StMid Go.Proofs.Ytijeackkgcnbgaa.StEq Go.Proofs.Ytijeackkgcnbgaa.StPt Go.Proofs.Ytijeackkgcnbgaa.StIdx
open Go.RowKit Go.Proofs.YtijeackkgcnbgaaW.PrintWords Go.Proofs.YtijeackkgcnbgaaW.PrintLast Go.Proofs.YtijeackkgcnbgaaW.PrintMore
attribute [local go_sem] max2_int min2_int max_two min_two max_three min_three max_four min_four   -- for this text's walks alone
set_option linter.unusedVariables false
set_option linter.unusedSimpArgs false

/-! ### spec_l05Pow: function 94 -/
theorem and1i (n : Int) : bits .and .i64 n 1 = n % 2 := by
  show IntKind.i64.wrap ((BitVec.ofInt 64 n &&& BitVec.ofInt 64 1).toNat : Int) = _
  rw [BitVec.toNat_and, show (BitVec.ofInt 64 1).toNat = 1 from by decide, Nat.and_one_is_mod, BitVec.toNat_ofInt]
  simp [IntKind.wrap, IntKind.bits, IntKind.signed]
  omega
set_option maxHeartbeats 4000000 in
set_option maxRecDepth 100000 in
theorem spec_l05Pow.calls (a low high : Nat) (w : World) (ha : a < BB) (hlo : low < 256) (hhi : high < 256) :
    Calls Try.prog 94 #[.agg (arr .i64 (fe a)), .int .i64 (low : Int), .int .i64 (high : Int)] w fun e w' => ∃ c, c < BB ∧ c % PP = a ^ (expN low high) % PP ∧ e = .returned (.agg (arr .i64 (fe c))) ∧ Below w.heap.size w w' := by
  obtain ⟨E, hE⟩ : ∃ E, E = expN low high := ⟨_, rfl⟩
  have HX := Aside0.mk (fun i k hi hk => exp_bit low high i k hlo hhi hi hk)
  have hE2 := expN_lt low high hlo hhi
  rw [← hE] at HX hE2 ⊢
  have H0 := Aside0.mk (show a ^ (E / 2 ^ 256) % PP = 1 % PP by rw [Nat.div_eq_of_lt hE2, Nat.pow_zero])
  have HA := Aside0.mk ha
  have HS1 := Aside0.mk (fun W => (show Calls Try.prog 89 #[.int .i64 1] W _ from spec_l05Small.calls 1 W (by decide)))
  clear hE hE2 ha hlo hhi
  have S := Aside0.mk (((St.start w).push rfl 40 .i64 (fe a)).push (World.size_alloc ..) 40 .i64 z16)
  go_enter Try.func94, Try.ntmps94
  go_wp2_with (first
    | ((with_reducible refine (HS1.out _).mono ?_); rintro e w1 ⟨rfl, hb⟩; have S1 := Aside0.mk (S.out.step hb); clear hb)
    | (refine st_arr rfl 40 (.tmp 7) (.tmp 11) rfl w1.heap.size (xs := fe 1) rfl rfl (blk_new w1 (.cells (arr .i64 z16) 40)) (m := 16) (by kernel_rfl) (fe_length _) (by rw [fe_length]; rfl) ?_; intro w2 h1 h2 h4 h3; have G2 := Aside0.mk h1; have S2 := Aside0.mk (St.other (S1.out.alloc (.cells (arr .i64 z16) 40)) h2 h3 S1.out.size); clear h1 h2 h3 h4))
  have HG := Aside0.mk S1.out.size
  generalize w1.heap.size = g at *
  go_loopg [8] 33 (fun gg s8 wr => ∃ k : Nat, k ≤ 32 ∧ k ≤ gg ∧ s8 = .int .i64 ((k : Int) - 1) ∧ ∃ c : Nat, c < BB ∧ c % PP = a ^ (E / 2 ^ (8 * k)) % PP ∧ Aside0 (St w [⟨40, .i64, fe a⟩, ⟨40, .i64, z16⟩] wr) ∧ Aside0 (wr.heap[g]? = some (.cells (arr .i64 (fe c)) 40 (0, 0))))
  case atStart => exact ⟨32, Nat.le_refl _, by omega, rfl, 1, by decide, by rw [← H0.out], S2, G2⟩
  case round =>
    clear S2 G2 S1 S
    obtain ⟨k, hk, hg, rfl, c, hc, hcm, S2, G2⟩ := hrel
    rcases Nat.eq_zero_or_pos k with h0 | h0
    · subst h0
      have e0 : ((0 : Nat) : Int) - 1 = -1 := rfl
      rw [e0]
      rw [Nat.mul_zero, Nat.pow_zero, Nat.div_one] at hcm
      go_wp2_with (first
        | ((with_reducible refine gate_dst (N := 38) rfl ?_); refine ld_arr rfl 40 (.tmp 7) rfl g rfl G2.out Try.underlying40 (m := 16) (by kernel_rfl) (fe_length _) ?_)
        | (refine st_arr rfl 40 (.tmp 6) (.tmp 38) rfl (w.heap.size + 1) (xs := fe c) rfl rfl (S2.out.blk 1 rfl) (m := 16) (by kernel_rfl) (fe_length _) (by rw [fe_length]; rfl) ?_; intro w' h1 h2 h4 h3; have H1 := Aside0.mk h1; have S3 := Aside0.mk (S2.out.row 1 rfl h1 h2 h3); clear h1 h2 h3 h4))
      exact bodyPost_ret (results_cell_row Try.results94 _ _ (w.heap.size + 1) 40 _ (0, 0) _ rfl H1.out Try.underlying40 rfl (by rw [arr_size, fe_length]; kernel_rfl)) rfl ⟨c, hc, hcm, rfl, S3.out.below⟩
    · obtain ⟨i, rfl⟩ : ∃ i, k = i + 1 := ⟨k - 1, by omega⟩
      have e0 : (((i + 1 : Nat)) : Int) - 1 = (i : Int) := by omega
      rw [e0]
      have hi0 : (i : Int) ≥ 0 := by omega
      have HEX := Aside0.mk (show True from trivial)
      have HEB0 := Aside0.mk (fun k hk => HX.out i k (by omega) hk)
      clear e0
      rcases Nat.eq_zero_or_pos i with hz | hz
      · have z0 : (i : Int) = 0 := by omega
        have z1 : ¬ (i : Int) = 31 := by omega
        have b0 := z0
        have b1 := z1
        have HEB := Aside0.mk (fun k (hk : k < 8) => show E / 2 ^ (8 * i + k) % 2 = low / 2 ^ k % 2 by rw [HEB0.out k hk, expB, if_pos hz])
        clear HEB0 hz
        have hbits : ∀ k : Nat, k < 8 → bits .and .i64 ((low : Int) / 2 ^ k) 1 = ((E / 2 ^ (8 * i + k) % 2 : Nat) : Int) := fun k hk => by
          rw [HEB.out k hk, and1i]
          simp
        have HBT := Aside0.mk hbits
        clear hbits HEX HEB
        go_wp2
        clear z0 z1 b0 b1
        go_loopg [10] 9 (fun gg2 s10 wr2 => ∃ k2 : Nat, k2 ≤ 8 ∧ k2 ≤ gg2 ∧ s10 = .int .i64 ((k2 : Int) - 1) ∧ ∃ c : Nat, c < BB ∧ c % PP = a ^ (E / 2 ^ (8 * i + k2)) % PP ∧ Aside0 (St w [⟨40, .i64, fe a⟩, ⟨40, .i64, z16⟩] wr2) ∧ Aside0 (wr2.heap[g]? = some (.cells (arr .i64 (fe c)) 40 (0, 0))))
        case atStart => exact ⟨8, Nat.le_refl _, by omega, rfl, c, hc, by rw [hcm, show 8 * (i + 1) = 8 * i + 8 from by omega], S2, G2⟩
        case round =>
          obtain ⟨k2, hk2, hg2, rfl, c, hc, hcm, S3, G3⟩ := hrel
          rcases Nat.eq_zero_or_pos k2 with h0 | h0
          · subst h0
            have e1 : ((0 : Nat) : Int) - 1 = -1 := rfl
            rw [e1]
            rw [Nat.add_zero] at hcm
            go_wp2
            go_roundg i
            case measure => omega
            case rel => exact ⟨i, by omega, Nat.le_refl _, by go_num, c, hc, hcm, S3, G3⟩
          · obtain ⟨k, rfl⟩ : ∃ k, k2 = k + 1 := ⟨k2 - 1, by omega⟩
            have e1 : (((k + 1 : Nat)) : Int) - 1 = (k : Int) := by omega
            rw [e1]
            have k0 : (k : Int) ≥ 0 := by omega
            have k8 : (k : Int) < 8 := by omega
            have k8n : k < 8 := by omega
            have k64 : min k 64 = k := by omega
            have wk : IntKind.u64.wrap (k : Int) = (k : Int) := by rw [IntKind.wrap_u64]; omega
            have hbit := HBT.out k k8n
            have hcm1 : c % PP = a ^ (E / 2 ^ (8 * i + k + 1)) % PP := hcm
            clear e1
            rcases Nat.mod_two_eq_zero_or_one (E / 2 ^ (8 * i + k)) with hb0 | hb0
            · have HPW := Aside0.mk (pow_sq a E (8 * i + k) c hb0 hcm1)
              rw [hb0] at hbit
              have hbit0 : bits .and .i64 ((low : Int) / 2 ^ k) 1 = 0 := hbit
              clear hbit hb0 hcm hcm1
              go_wp2_with (first
                | ((with_reducible refine gate_dst (N := 26) rfl ?_); refine ld_arr rfl 40 (.tmp 7) rfl g rfl G3.out Try.underlying40 (m := 16) (by kernel_rfl) (fe_length _) ?_)
                | ((with_reducible refine gate_dst (N := 27) rfl ?_); refine ld_arr rfl 40 (.tmp 7) rfl g rfl G3.out Try.underlying40 (m := 16) (by kernel_rfl) (fe_length _) ?_)
                | ((with_reducible refine (spec_l05Mul.calls c c _ hc hc).mono ?_); rintro e w4 ⟨c2, hc2, hm2, rfl, hb⟩; have S4 := Aside0.mk (S3.out.step hb); have G4 := Aside0.mk (blk_below G3.out hb); clear hb)
                | (refine st_arr rfl 40 (.tmp 7) (.tmp 28) rfl g (xs := fe c2) rfl rfl G4.out (m := 16) (by kernel_rfl) (fe_length _) (by rw [fe_length, fe_length]) ?_; intro w5 h1 h2 h4 h3; have G5 := Aside0.mk h1; have S5 := Aside0.mk (St.other S4.out h2 h3 HG.out); clear h1 h2 h3 h4))
              go_roundg k
              case measure => omega
              case rel => exact ⟨k, by omega, Nat.le_refl _, by go_num, c2, hc2, by rw [hm2, HPW.out], S5, G5⟩
            · have HPW := Aside0.mk (fun y hy => pow_sq1 a E (8 * i + k) c hb0 hcm1 y hy)
              rw [hb0] at hbit
              have hbit0 : bits .and .i64 ((low : Int) / 2 ^ k) 1 = 1 := hbit
              clear hbit hb0 hcm hcm1
              go_wp2_with (first
                | ((with_reducible refine gate_dst (N := 26) rfl ?_); refine ld_arr rfl 40 (.tmp 7) rfl g rfl G3.out Try.underlying40 (m := 16) (by kernel_rfl) (fe_length _) ?_)
                | ((with_reducible refine gate_dst (N := 27) rfl ?_); refine ld_arr rfl 40 (.tmp 7) rfl g rfl G3.out Try.underlying40 (m := 16) (by kernel_rfl) (fe_length _) ?_)
                | ((with_reducible refine gate_dst (N := 35) rfl ?_); refine ld_arr rfl 40 (.tmp 7) rfl g rfl G5.out Try.underlying40 (m := 16) (by kernel_rfl) (fe_length _) ?_)
                | ((with_reducible refine gate_dst (N := 36) rfl ?_); refine ld_arr rfl 40 (.tmp 3) rfl w.heap.size rfl (S5.out.blk 0 rfl) Try.underlying40 (m := 16) (by kernel_rfl) (fe_length _) ?_)
                | ((with_reducible refine (spec_l05Mul.calls c c _ hc hc).mono ?_); rintro e w4 ⟨c2, hc2, hm2, rfl, hb⟩; have S4 := Aside0.mk (S3.out.step hb); have G4 := Aside0.mk (blk_below G3.out hb); clear hb)
                | (refine st_arr rfl 40 (.tmp 7) (.tmp 28) rfl g (xs := fe c2) rfl rfl G4.out (m := 16) (by kernel_rfl) (fe_length _) (by rw [fe_length, fe_length]) ?_; intro w5 h1 h2 h4 h3; have G5 := Aside0.mk h1; have S5 := Aside0.mk (St.other S4.out h2 h3 HG.out); clear h1 h2 h3 h4)
                | ((with_reducible refine (spec_l05Mul.calls c2 a _ hc2 HA.out).mono ?_); rintro e w6 ⟨c3, hc3, hm3, rfl, hb⟩; have S6 := Aside0.mk (S5.out.step hb); have G6 := Aside0.mk (blk_below G5.out hb); clear hb)
                | (refine st_arr rfl 40 (.tmp 7) (.tmp 37) rfl g (xs := fe c3) rfl rfl G6.out (m := 16) (by kernel_rfl) (fe_length _) (by rw [fe_length, fe_length]) ?_; intro w7 h1 h2 h4 h3; have G7 := Aside0.mk h1; have S7 := Aside0.mk (St.other S6.out h2 h3 HG.out); clear h1 h2 h3 h4))
              go_roundg k
              case measure => omega
              case rel => exact ⟨k, by omega, Nat.le_refl _, by go_num, c3, hc3, by rw [hm3, HPW.out c2 hm2], S7, G7⟩
      · have z0 : ¬ (i : Int) = 0 := by omega
        by_cases h31 : i = 31
        · have z1 : (i : Int) = 31 := by omega
          have b0 := z0
          have b1 := z1
          have HEB := Aside0.mk (fun k (hk : k < 8) => show E / 2 ^ (8 * i + k) % 2 = high / 2 ^ k % 2 by rw [HEB0.out k hk, expB, if_neg (by omega), if_pos h31])
          clear HEB0 hz h31
          have hbits : ∀ k : Nat, k < 8 → bits .and .i64 ((high : Int) / 2 ^ k) 1 = ((E / 2 ^ (8 * i + k) % 2 : Nat) : Int) := fun k hk => by
            rw [HEB.out k hk, and1i]
            simp
          have HBT := Aside0.mk hbits
          clear hbits HEX HEB
          go_wp2
          clear z0 z1 b0 b1
          go_loopg [10] 9 (fun gg2 s10 wr2 => ∃ k2 : Nat, k2 ≤ 8 ∧ k2 ≤ gg2 ∧ s10 = .int .i64 ((k2 : Int) - 1) ∧ ∃ c : Nat, c < BB ∧ c % PP = a ^ (E / 2 ^ (8 * i + k2)) % PP ∧ Aside0 (St w [⟨40, .i64, fe a⟩, ⟨40, .i64, z16⟩] wr2) ∧ Aside0 (wr2.heap[g]? = some (.cells (arr .i64 (fe c)) 40 (0, 0))))
          case atStart => exact ⟨8, Nat.le_refl _, by omega, rfl, c, hc, by rw [hcm, show 8 * (i + 1) = 8 * i + 8 from by omega], S2, G2⟩
          case round =>
            obtain ⟨k2, hk2, hg2, rfl, c, hc, hcm, S3, G3⟩ := hrel
            rcases Nat.eq_zero_or_pos k2 with h0 | h0
            · subst h0
              have e1 : ((0 : Nat) : Int) - 1 = -1 := rfl
              rw [e1]
              rw [Nat.add_zero] at hcm
              go_wp2
              go_roundg i
              case measure => omega
              case rel => exact ⟨i, by omega, Nat.le_refl _, by go_num, c, hc, hcm, S3, G3⟩
            · obtain ⟨k, rfl⟩ : ∃ k, k2 = k + 1 := ⟨k2 - 1, by omega⟩
              have e1 : (((k + 1 : Nat)) : Int) - 1 = (k : Int) := by omega
              rw [e1]
              have k0 : (k : Int) ≥ 0 := by omega
              have k8 : (k : Int) < 8 := by omega
              have k8n : k < 8 := by omega
              have k64 : min k 64 = k := by omega
              have wk : IntKind.u64.wrap (k : Int) = (k : Int) := by rw [IntKind.wrap_u64]; omega
              have hbit := HBT.out k k8n
              have hcm1 : c % PP = a ^ (E / 2 ^ (8 * i + k + 1)) % PP := hcm
              clear e1
              rcases Nat.mod_two_eq_zero_or_one (E / 2 ^ (8 * i + k)) with hb0 | hb0
              · have HPW := Aside0.mk (pow_sq a E (8 * i + k) c hb0 hcm1)
                rw [hb0] at hbit
                have hbit0 : bits .and .i64 ((high : Int) / 2 ^ k) 1 = 0 := hbit
                clear hbit hb0 hcm hcm1
                go_wp2_with (first
                  | ((with_reducible refine gate_dst (N := 26) rfl ?_); refine ld_arr rfl 40 (.tmp 7) rfl g rfl G3.out Try.underlying40 (m := 16) (by kernel_rfl) (fe_length _) ?_)
                  | ((with_reducible refine gate_dst (N := 27) rfl ?_); refine ld_arr rfl 40 (.tmp 7) rfl g rfl G3.out Try.underlying40 (m := 16) (by kernel_rfl) (fe_length _) ?_)
                  | ((with_reducible refine (spec_l05Mul.calls c c _ hc hc).mono ?_); rintro e w4 ⟨c2, hc2, hm2, rfl, hb⟩; have S4 := Aside0.mk (S3.out.step hb); have G4 := Aside0.mk (blk_below G3.out hb); clear hb)
                  | (refine st_arr rfl 40 (.tmp 7) (.tmp 28) rfl g (xs := fe c2) rfl rfl G4.out (m := 16) (by kernel_rfl) (fe_length _) (by rw [fe_length, fe_length]) ?_; intro w5 h1 h2 h4 h3; have G5 := Aside0.mk h1; have S5 := Aside0.mk (St.other S4.out h2 h3 HG.out); clear h1 h2 h3 h4))
                go_roundg k
                case measure => omega
                case rel => exact ⟨k, by omega, Nat.le_refl _, by go_num, c2, hc2, by rw [hm2, HPW.out], S5, G5⟩
              · have HPW := Aside0.mk (fun y hy => pow_sq1 a E (8 * i + k) c hb0 hcm1 y hy)
                rw [hb0] at hbit
                have hbit0 : bits .and .i64 ((high : Int) / 2 ^ k) 1 = 1 := hbit
                clear hbit hb0 hcm hcm1
                go_wp2_with (first
                  | ((with_reducible refine gate_dst (N := 26) rfl ?_); refine ld_arr rfl 40 (.tmp 7) rfl g rfl G3.out Try.underlying40 (m := 16) (by kernel_rfl) (fe_length _) ?_)
                  | ((with_reducible refine gate_dst (N := 27) rfl ?_); refine ld_arr rfl 40 (.tmp 7) rfl g rfl G3.out Try.underlying40 (m := 16) (by kernel_rfl) (fe_length _) ?_)
                  | ((with_reducible refine gate_dst (N := 35) rfl ?_); refine ld_arr rfl 40 (.tmp 7) rfl g rfl G5.out Try.underlying40 (m := 16) (by kernel_rfl) (fe_length _) ?_)
                  | ((with_reducible refine gate_dst (N := 36) rfl ?_); refine ld_arr rfl 40 (.tmp 3) rfl w.heap.size rfl (S5.out.blk 0 rfl) Try.underlying40 (m := 16) (by kernel_rfl) (fe_length _) ?_)
                  | ((with_reducible refine (spec_l05Mul.calls c c _ hc hc).mono ?_); rintro e w4 ⟨c2, hc2, hm2, rfl, hb⟩; have S4 := Aside0.mk (S3.out.step hb); have G4 := Aside0.mk (blk_below G3.out hb); clear hb)
                  | (refine st_arr rfl 40 (.tmp 7) (.tmp 28) rfl g (xs := fe c2) rfl rfl G4.out (m := 16) (by kernel_rfl) (fe_length _) (by rw [fe_length, fe_length]) ?_; intro w5 h1 h2 h4 h3; have G5 := Aside0.mk h1; have S5 := Aside0.mk (St.other S4.out h2 h3 HG.out); clear h1 h2 h3 h4)
                  | ((with_reducible refine (spec_l05Mul.calls c2 a _ hc2 HA.out).mono ?_); rintro e w6 ⟨c3, hc3, hm3, rfl, hb⟩; have S6 := Aside0.mk (S5.out.step hb); have G6 := Aside0.mk (blk_below G5.out hb); clear hb)
                  | (refine st_arr rfl 40 (.tmp 7) (.tmp 37) rfl g (xs := fe c3) rfl rfl G6.out (m := 16) (by kernel_rfl) (fe_length _) (by rw [fe_length, fe_length]) ?_; intro w7 h1 h2 h4 h3; have G7 := Aside0.mk h1; have S7 := Aside0.mk (St.other S6.out h2 h3 HG.out); clear h1 h2 h3 h4))
                go_roundg k
                case measure => omega
                case rel => exact ⟨k, by omega, Nat.le_refl _, by go_num, c3, hc3, by rw [hm3, HPW.out c2 hm2], S7, G7⟩
        · have z1 : ¬ (i : Int) = 31 := by omega
          have b0 : ((i : Int) == 0) = false := beq_eq_false_iff_ne.mpr z0
          have b1 : ((i : Int) == 31) = false := beq_eq_false_iff_ne.mpr z1
          have HEB := Aside0.mk (fun k (hk : k < 8) => show E / 2 ^ (8 * i + k) % 2 = 255 / 2 ^ k % 2 by rw [HEB0.out k hk, expB, if_neg (by omega), if_neg h31])
          clear HEB0 hz h31
          have hbits : ∀ k : Nat, k < 8 → bits .and .i64 ((255 : Int) / 2 ^ k) 1 = ((E / 2 ^ (8 * i + k) % 2 : Nat) : Int) := fun k hk => by
            rw [HEB.out k hk, and1i]
            simp
          have HBT := Aside0.mk hbits
          clear hbits HEX HEB
          go_wp2
          clear z0 z1 b0 b1
          go_loopg [10] 9 (fun gg2 s10 wr2 => ∃ k2 : Nat, k2 ≤ 8 ∧ k2 ≤ gg2 ∧ s10 = .int .i64 ((k2 : Int) - 1) ∧ ∃ c : Nat, c < BB ∧ c % PP = a ^ (E / 2 ^ (8 * i + k2)) % PP ∧ Aside0 (St w [⟨40, .i64, fe a⟩, ⟨40, .i64, z16⟩] wr2) ∧ Aside0 (wr2.heap[g]? = some (.cells (arr .i64 (fe c)) 40 (0, 0))))
          case atStart => exact ⟨8, Nat.le_refl _, by omega, rfl, c, hc, by rw [hcm, show 8 * (i + 1) = 8 * i + 8 from by omega], S2, G2⟩
          case round =>
            obtain ⟨k2, hk2, hg2, rfl, c, hc, hcm, S3, G3⟩ := hrel
            rcases Nat.eq_zero_or_pos k2 with h0 | h0
            · subst h0
              have e1 : ((0 : Nat) : Int) - 1 = -1 := rfl
              rw [e1]
              rw [Nat.add_zero] at hcm
              go_wp2
              go_roundg i
              case measure => omega
              case rel => exact ⟨i, by omega, Nat.le_refl _, by go_num, c, hc, hcm, S3, G3⟩
            · obtain ⟨k, rfl⟩ : ∃ k, k2 = k + 1 := ⟨k2 - 1, by omega⟩
              have e1 : (((k + 1 : Nat)) : Int) - 1 = (k : Int) := by omega
              rw [e1]
              have k0 : (k : Int) ≥ 0 := by omega
              have k8 : (k : Int) < 8 := by omega
              have k8n : k < 8 := by omega
              have k64 : min k 64 = k := by omega
              have wk : IntKind.u64.wrap (k : Int) = (k : Int) := by rw [IntKind.wrap_u64]; omega
              have hbit := HBT.out k k8n
              have hcm1 : c % PP = a ^ (E / 2 ^ (8 * i + k + 1)) % PP := hcm
              clear e1
              rcases Nat.mod_two_eq_zero_or_one (E / 2 ^ (8 * i + k)) with hb0 | hb0
              · have HPW := Aside0.mk (pow_sq a E (8 * i + k) c hb0 hcm1)
                rw [hb0] at hbit
                have hbit0 : bits .and .i64 ((255 : Int) / 2 ^ k) 1 = 0 := hbit
                clear hbit hb0 hcm hcm1
                go_wp2_with (first
                  | ((with_reducible refine gate_dst (N := 26) rfl ?_); refine ld_arr rfl 40 (.tmp 7) rfl g rfl G3.out Try.underlying40 (m := 16) (by kernel_rfl) (fe_length _) ?_)
                  | ((with_reducible refine gate_dst (N := 27) rfl ?_); refine ld_arr rfl 40 (.tmp 7) rfl g rfl G3.out Try.underlying40 (m := 16) (by kernel_rfl) (fe_length _) ?_)
                  | ((with_reducible refine (spec_l05Mul.calls c c _ hc hc).mono ?_); rintro e w4 ⟨c2, hc2, hm2, rfl, hb⟩; have S4 := Aside0.mk (S3.out.step hb); have G4 := Aside0.mk (blk_below G3.out hb); clear hb)
                  | (refine st_arr rfl 40 (.tmp 7) (.tmp 28) rfl g (xs := fe c2) rfl rfl G4.out (m := 16) (by kernel_rfl) (fe_length _) (by rw [fe_length, fe_length]) ?_; intro w5 h1 h2 h4 h3; have G5 := Aside0.mk h1; have S5 := Aside0.mk (St.other S4.out h2 h3 HG.out); clear h1 h2 h3 h4))
                go_roundg k
                case measure => omega
                case rel => exact ⟨k, by omega, Nat.le_refl _, by go_num, c2, hc2, by rw [hm2, HPW.out], S5, G5⟩
              · have HPW := Aside0.mk (fun y hy => pow_sq1 a E (8 * i + k) c hb0 hcm1 y hy)
                rw [hb0] at hbit
                have hbit0 : bits .and .i64 ((255 : Int) / 2 ^ k) 1 = 1 := hbit
                clear hbit hb0 hcm hcm1
                go_wp2_with (first
                  | ((with_reducible refine gate_dst (N := 26) rfl ?_); refine ld_arr rfl 40 (.tmp 7) rfl g rfl G3.out Try.underlying40 (m := 16) (by kernel_rfl) (fe_length _) ?_)
                  | ((with_reducible refine gate_dst (N := 27) rfl ?_); refine ld_arr rfl 40 (.tmp 7) rfl g rfl G3.out Try.underlying40 (m := 16) (by kernel_rfl) (fe_length _) ?_)
                  | ((with_reducible refine gate_dst (N := 35) rfl ?_); refine ld_arr rfl 40 (.tmp 7) rfl g rfl G5.out Try.underlying40 (m := 16) (by kernel_rfl) (fe_length _) ?_)
                  | ((with_reducible refine gate_dst (N := 36) rfl ?_); refine ld_arr rfl 40 (.tmp 3) rfl w.heap.size rfl (S5.out.blk 0 rfl) Try.underlying40 (m := 16) (by kernel_rfl) (fe_length _) ?_)
                  | ((with_reducible refine (spec_l05Mul.calls c c _ hc hc).mono ?_); rintro e w4 ⟨c2, hc2, hm2, rfl, hb⟩; have S4 := Aside0.mk (S3.out.step hb); have G4 := Aside0.mk (blk_below G3.out hb); clear hb)
                  | (refine st_arr rfl 40 (.tmp 7) (.tmp 28) rfl g (xs := fe c2) rfl rfl G4.out (m := 16) (by kernel_rfl) (fe_length _) (by rw [fe_length, fe_length]) ?_; intro w5 h1 h2 h4 h3; have G5 := Aside0.mk h1; have S5 := Aside0.mk (St.other S4.out h2 h3 HG.out); clear h1 h2 h3 h4)
                  | ((with_reducible refine (spec_l05Mul.calls c2 a _ hc2 HA.out).mono ?_); rintro e w6 ⟨c3, hc3, hm3, rfl, hb⟩; have S6 := Aside0.mk (S5.out.step hb); have G6 := Aside0.mk (blk_below G5.out hb); clear hb)
                  | (refine st_arr rfl 40 (.tmp 7) (.tmp 37) rfl g (xs := fe c3) rfl rfl G6.out (m := 16) (by kernel_rfl) (fe_length _) (by rw [fe_length, fe_length]) ?_; intro w7 h1 h2 h4 h3; have G7 := Aside0.mk h1; have S7 := Aside0.mk (St.other S6.out h2 h3 HG.out); clear h1 h2 h3 h4))
                go_roundg k
                case measure => omega
                case rel => exact ⟨k, by omega, Nat.le_refl _, by go_num, c3, hc3, by rw [hm3, HPW.out c2 hm2], S7, G7⟩


/-! ### spec_l05Inverse: function 67 -/
set_option maxHeartbeats 1000000 in
set_option maxRecDepth 100000 in
theorem spec_l05Inverse.calls (a : Nat) (w : World) (ha : a < BB) :
    Calls Try.prog 67 #[.agg (arr .i64 (fe a))] w fun e w' => ∃ c, c < BB ∧ c % PP = a ^ (PP - 2) % PP ∧ e = .returned (.agg (arr .i64 (fe c))) ∧ Below w.heap.size w w' := by
  have HW := Aside0.mk (fun W => (show Calls Try.prog 94 #[.agg (arr .i64 (fe a)), .int .i64 235, .int .i64 127] W _ from spec_l05Pow.calls a 235 127 W ha (by decide) (by decide)))
  rw [show expN 235 127 = PP - 2 from by decide] at HW
  clear ha
  generalize a ^ (PP - 2) % PP = r at *
  have S := Aside0.mk (((St.start w).push rfl 40 .i64 (fe a)).push (World.size_alloc ..) 40 .i64 z16)
  go_enter Try.func67, Try.ntmps67
  go_wp2_with (first
    | ((with_reducible refine gate_dst (N := 3) rfl ?_); refine ld_arr rfl 40 (.tmp 1) rfl w.heap.size rfl (S.out.blk 0 rfl) Try.underlying40 (m := 16) (by kernel_rfl) (fe_length _) ?_)
    | ((with_reducible refine (HW.out _).mono ?_); rintro e w1 ⟨c, hc, hm, rfl, hb⟩; have S1 := Aside0.mk (S.out.step hb); clear hb)
    | (refine st_arr rfl 40 (.tmp 2) (.tmp 4) rfl (w.heap.size + 1) (xs := fe c) rfl rfl (S1.out.blk 1 rfl) (m := 16) (by kernel_rfl) (fe_length _) (by rw [fe_length]; rfl) ?_; intro w' h1 h2 h4 h3; have H1 := Aside0.mk h1; have S2 := Aside0.mk (S1.out.row 1 rfl h1 h2 h3); clear h1 h2 h3 h4))
  exact bodyPost_ret (results_cell_row Try.results67 _ _ (w.heap.size + 1) 40 _ (0, 0) _ rfl H1.out Try.underlying40 rfl (by rw [arr_size, fe_length]; kernel_rfl)) rfl ⟨c, hc, hm, rfl, S2.out.below⟩


/-! ### spec_l05Root: function 72 -/
set_option maxHeartbeats 4000000 in
set_option maxRecDepth 100000 in
theorem spec_l05Root.calls (a : Nat) (w : World) (ha : a < BB) :
    Calls Try.prog 72 #[.agg (arr .i64 (fe a))] w fun e w' => ∃ c, c < BB ∧ c % PP = (if rtOk (a % PP) = true then rtV (a % PP) else 0) ∧ e = .returned (.tuple #[.agg (arr .i64 (fe c)), .bool (rtOk (a % PP))]) ∧ Below w.heap.size w w' := by
  have HPw := Aside0.mk (fun W => (show Calls Try.prog 94 #[.agg (arr .i64 (fe a)), .int .i64 254, .int .i64 15] W _ from spec_l05Pow.calls a 254 15 W ha (by decide) (by decide)))
  rw [rt0_mod a] at HPw
  have HS2 := Aside0.mk (fun W => (show Calls Try.prog 89 #[.int .i64 2] W _ from spec_l05Small.calls 2 W (by decide)))
  have HPi := Aside0.mk (fun W => (show Calls Try.prog 94 #[.agg (arr .i64 (fe 2)), .int .i64 251, .int .i64 31] W _ from spec_l05Pow.calls 2 251 31 W (by decide) (by decide) (by decide)))
  rw [im_pow] at HPi
  obtain ⟨b, hb⟩ : ∃ b, b = a % PP := ⟨_, rfl⟩
  have hbP : b < PP := by rw [hb]; exact Nat.mod_lt _ PP_pos
  obtain ⟨x, hx⟩ : ∃ x, x = rt0 b := ⟨_, rfl⟩
  obtain ⟨z, hz⟩ : ∃ z, z = rt1 b := ⟨_, rfl⟩
  rw [← hb] at HPw ⊢
  rw [← hx] at HPw
  have HMx := Aside0.mk (fun c W (hc : c < BB) (hm : c % PP = x) => (show Calls Try.prog 64 #[.agg (arr .i64 (fe c)), .agg (arr .i64 (fe c))] W fun e w' => ∃ d, d < BB ∧ d % PP = x * x % PP ∧ e = .returned (.agg (arr .i64 (fe d))) ∧ Below W.heap.size W w' from by
    have h := spec_l05Mul.calls c c W hc hc
    rw [Nat.mul_mod, hm] at h
    exact h))
  have HMz := Aside0.mk (fun c W (hc : c < BB) (hm : c % PP = z) => (show Calls Try.prog 64 #[.agg (arr .i64 (fe c)), .agg (arr .i64 (fe c))] W fun e w' => ∃ d, d < BB ∧ d % PP = z * z % PP ∧ e = .returned (.agg (arr .i64 (fe d))) ∧ Below W.heap.size W w' from by
    have h := spec_l05Mul.calls c c W hc hc
    rw [Nat.mul_mod, hm] at h
    exact h))
  have HMi := Aside0.mk (fun c ci W (hc : c < BB) (hm : c % PP = x) (hci : ci < BB) (him : ci % PP = imN) => (show Calls Try.prog 64 #[.agg (arr .i64 (fe c)), .agg (arr .i64 (fe ci))] W fun e w' => ∃ d, d < BB ∧ d % PP = x * imN % PP ∧ e = .returned (.agg (arr .i64 (fe d))) ∧ Below W.heap.size W w' from by
    have h := spec_l05Mul.calls c ci W hc hci
    rw [Nat.mul_mod, hm, him] at h
    exact h))
  have HSm := Aside0.mk (fun q c W (hc : c < BB) (hm : c % PP = q) => (show Calls Try.prog 93 #[.agg (arr .i64 (fe c)), .agg (arr .i64 (fe a))] W fun e w' => e = .returned (.bool (decide (q = b))) ∧ Below W.heap.size W w' from by
    have h := spec_l05Same.calls c a W hc ha
    rw [hm, ← hb] at h
    exact h))
  have HU := Aside0.mk (fun c W (hc : c < BB) => spec_l05Sub.calls 0 c W (by decide) hc)
  rw [show fe 0 = [0, 0, 0, 0, 0, 0, 0, 0, 0, 0, 0, 0, 0, 0, 0, 0] from by decide] at HU
  have E1 := Aside0.mk (show z = if x * x % PP = b then x else x * imN % PP by rw [hz, hx]; rfl)
  have EO := Aside0.mk (show rtOk b = decide (z * z % PP = b) by rw [hz]; rfl)
  have ER := Aside0.mk hz
  have HSx := Aside0.mk (HSm.out (x * x % PP))
  have HSz := Aside0.mk (HSm.out (z * z % PP))
  clear hx hz hbP ha hb HSm
  generalize hq : x * x % PP = q at *
  generalize hp : z * z % PP = p at *
  generalize hi : x * imN % PP = xi at *
  generalize imN = im at *
  have S := Aside0.mk (((St.start w).push rfl 40 .i64 (fe a)).push (World.size_alloc ..) 40 .i64 z16)
  by_cases h0 : q = b
  · have e1 : z = x := by rw [E1.out, if_pos h0]
    have e2 : p = q := by rw [← hp, ← hq, e1]
    have hok : rtOk b = true := by rw [EO.out, e2, decide_eq_true h0]
    rw [hok, if_pos rfl]
    rw [decide_eq_true h0] at HSx
    rw [e1] at ER
    clear HSz HMz e2 e1 hok hq hp hi h0 E1 EO HMi HPi HS2
    go_enter Try.func72, Try.ntmps72
    go_wp2_with (first
      | ((with_reducible refine gate_dst (N := 6) rfl ?_); refine ld_arr rfl 40 (.tmp 1) rfl w.heap.size rfl (S.out.blk 0 rfl) Try.underlying40 (m := 16) (by kernel_rfl) (fe_length _) ?_)
      | ((refine (HPw.out _).mono ?_); rintro e w1 ⟨c, hc, cm, rfl, hb⟩; have S1 := Aside0.mk (S.out.step hb); clear hb)
      | (refine st_arr rfl 40 (.tmp 4) (.tmp 7) rfl w1.heap.size (xs := fe c) rfl rfl (blk_new w1 (.cells (arr .i64 z16) 40)) (m := 16) (by kernel_rfl) (fe_length _) (by rw [fe_length]; rfl) ?_; intro w2 h1 h2 h4 h3; have A0 := Aside0.mk (blk_drew h1); have V0 := Aside0.mk (St.other (S1.out.alloc (.cells (arr .i64 z16) 40)) h2 h3 S1.out.size).drew; clear h1 h2 h3 h4))
    have HG := Aside0.mk S1.out.size
    generalize w1.heap.size = g at *
    clear S1 S
    go_wp2
    refine start_ (n := 6) (S := fun w' => St w [⟨40, .i64, fe a⟩, ⟨40, .i64, z16⟩] w' ∧ w'.heap[g]? = some (.cells (arr .i64 (fe c)) 40 (0, 0))) (ds := []) #[false, false, false, false, false, false] (by kernel_rfl) rfl rfl ⟨V0.out, A0.out⟩ (fun hHeld => ?_)
    refine take_ (i := 0) (N := some 8) (v := ?_) (a' := ?_) #[true, false, false, false, false, false] rfl rfl (by kernel_rfl) (fun _ _ _ h => h) (Or.inl ⟨by rfl, ?_⟩) hHeld ?_ ?_
    rotate_left
    · rintro w' ⟨s0, s1⟩
      refine (run_ld 40 (.tmp 4) (by rfl) g (by rfl) s1 Try.underlying40 (m := 16) (by kernel_rfl) (fe_length _)).trans ?_; with_reducible rfl
    rotate_left
    · simp only [Act.put, OpenRow.s1, OpenRow.s2, OpenRow.s3, i64_w, i32_w]; rfl
    refine take_ (i := 1) (N := some 9) (v := ?_) (a' := ?_) #[true, true, false, false, false, false] rfl rfl (by kernel_rfl) (fun _ _ _ h => h) (Or.inl ⟨by rfl, ?_⟩) hHeld ?_ ?_
    rotate_left
    · rintro w' ⟨s0, s1⟩
      refine (run_ld 40 (.tmp 4) (by rfl) g (by rfl) s1 Try.underlying40 (m := 16) (by kernel_rfl) (fe_length _)).trans ?_; with_reducible rfl
    rotate_left
    · simp only [Act.put, OpenRow.s1, OpenRow.s2, OpenRow.s3, i64_w, i32_w]; rfl
    refine take_ (i := 3) (N := some 11) (v := ?_) (a' := ?_) #[true, true, false, true, false, false] rfl rfl (by kernel_rfl) (fun _ _ _ h => h) (Or.inl ⟨by rfl, ?_⟩) hHeld ?_ ?_
    rotate_left
    · rintro w' ⟨s0, s1⟩
      refine (run_ld 40 (.tmp 1) (by rfl) w.heap.size (by rfl) (s0.blk 0 rfl) Try.underlying40 (m := 16) (by kernel_rfl) (fe_length _)).trans ?_; with_reducible rfl
    rotate_left
    · simp only [Act.put, OpenRow.s1, OpenRow.s2, OpenRow.s3, i64_w, i32_w]; rfl
    refine one_ (i := 2) (N := some 10) #[true, true, true, true, false, false] rfl rfl (by kernel_rfl) (by decide) (fun K hK => ?_)
    refine goes_ Try.func64 (by kernel_rfl) rfl #[.agg (arr .i64 (fe c)), .agg (arr .i64 (fe c))] (by rfl) rfl rfl (by simp only [List.map_toArray, List.map_cons, List.map_nil] <;> rfl) ?_
    with_reducible refine (HMx.out c _ hc cm).mono ?_
    rintro e w3 ⟨d, hd, dm, rfl, hb⟩
    refine ⟨_, rfl, ?_⟩
    have V1 := Aside0.mk (V0.out.step hb)
    have A1 := Aside0.mk (blk_below A0.out hb)
    clear hb
    refine hK.out _ _ ⟨V1.out, A1.out⟩ (fun hHeld => ?_)
    clear hK K
    refine norm_ (a' := ?_) ?_ ?_
    rotate_left
    · show Act.put _ (some 10) _ = _
      simp only [Act.put, OpenRow.s1, OpenRow.s2, OpenRow.s3, i64_w, i32_w]
      rfl
    refine one_ (i := 4) (N := some 12) #[true, true, true, true, true, false] rfl rfl (by kernel_rfl) (by decide) (fun K hK => ?_)
    refine goes_ Try.func93 (by kernel_rfl) rfl #[.agg (arr .i64 (fe d)), .agg (arr .i64 (fe a))] (by rfl) rfl rfl (by simp only [List.map_toArray, List.map_cons, List.map_nil] <;> rfl) ?_
    with_reducible refine (HSx.out d _ hd dm).mono ?_
    rintro e w3 ⟨rfl, hb⟩
    refine ⟨_, rfl, ?_⟩
    have V2 := Aside0.mk (V1.out.step hb)
    have A2 := Aside0.mk (blk_below A1.out hb)
    clear hb
    refine hK.out _ _ ⟨V2.out, A2.out⟩ (fun hHeld => ?_)
    clear hK K
    refine norm_ (a' := ?_) ?_ ?_
    rotate_left
    · show Act.put _ (some 12) _ = _
      simp only [Act.put, OpenRow.s1, OpenRow.s2, OpenRow.s3, i64_w, i32_w]
      rfl
    refine pure_ (i := 5) (N := some 13) (v := ?_) (a' := ?_) #[true, true, true, true, true, true] rfl rfl (by kernel_rfl) (fun _ _ _ h => h) (Or.inl ⟨by rfl, ?_⟩) ?_ ?_
    rotate_left
    · intro w'; go_simp; with_reducible rfl
    rotate_left
    · simp only [Act.put, OpenRow.s1, OpenRow.s2, OpenRow.s3, i64_w, i32_w]; rfl
    refine done_ (by kernel_rfl) ?_

    go_wp2
    have V3 := Aside0.mk V2.out.drew
    have A3 := Aside0.mk (blk_drew A2.out)

    refine start_ (n := 6) (S := fun w' => St w [⟨40, .i64, fe a⟩, ⟨40, .i64, z16⟩] w' ∧ w'.heap[g]? = some (.cells (arr .i64 (fe c)) 40 (0, 0))) (ds := []) #[false, false, false, false, false, false] (by kernel_rfl) rfl rfl ⟨V3.out, A3.out⟩ (fun hHeld => ?_)
    refine take_ (i := 0) (N := some 19) (v := ?_) (a' := ?_) #[true, false, false, false, false, false] rfl rfl (by kernel_rfl) (fun _ _ _ h => h) (Or.inl ⟨by rfl, ?_⟩) hHeld ?_ ?_
    rotate_left
    · rintro w' ⟨s0, s1⟩
      refine (run_ld 40 (.tmp 4) (by rfl) g (by rfl) s1 Try.underlying40 (m := 16) (by kernel_rfl) (fe_length _)).trans ?_; with_reducible rfl
    rotate_left
    · simp only [Act.put, OpenRow.s1, OpenRow.s2, OpenRow.s3, i64_w, i32_w]; rfl
    refine take_ (i := 1) (N := some 20) (v := ?_) (a' := ?_) #[true, true, false, false, false, false] rfl rfl (by kernel_rfl) (fun _ _ _ h => h) (Or.inl ⟨by rfl, ?_⟩) hHeld ?_ ?_
    rotate_left
    · rintro w' ⟨s0, s1⟩
      refine (run_ld 40 (.tmp 4) (by rfl) g (by rfl) s1 Try.underlying40 (m := 16) (by kernel_rfl) (fe_length _)).trans ?_; with_reducible rfl
    rotate_left
    · simp only [Act.put, OpenRow.s1, OpenRow.s2, OpenRow.s3, i64_w, i32_w]; rfl
    refine take_ (i := 3) (N := some 22) (v := ?_) (a' := ?_) #[true, true, false, true, false, false] rfl rfl (by kernel_rfl) (fun _ _ _ h => h) (Or.inl ⟨by rfl, ?_⟩) hHeld ?_ ?_
    rotate_left
    · rintro w' ⟨s0, s1⟩
      refine (run_ld 40 (.tmp 1) (by rfl) w.heap.size (by rfl) (s0.blk 0 rfl) Try.underlying40 (m := 16) (by kernel_rfl) (fe_length _)).trans ?_; with_reducible rfl
    rotate_left
    · simp only [Act.put, OpenRow.s1, OpenRow.s2, OpenRow.s3, i64_w, i32_w]; rfl
    refine one_ (i := 2) (N := some 21) #[true, true, true, true, false, false] rfl rfl (by kernel_rfl) (by decide) (fun K hK => ?_)
    refine goes_ Try.func64 (by kernel_rfl) rfl #[.agg (arr .i64 (fe c)), .agg (arr .i64 (fe c))] (by rfl) rfl rfl (by simp only [List.map_toArray, List.map_cons, List.map_nil] <;> rfl) ?_
    with_reducible refine (HMx.out c _ hc cm).mono ?_
    rintro e w3 ⟨d, hd, dm, rfl, hb⟩
    refine ⟨_, rfl, ?_⟩
    have V4 := Aside0.mk (V3.out.step hb)
    have A4 := Aside0.mk (blk_below A3.out hb)
    clear hb
    refine hK.out _ _ ⟨V4.out, A4.out⟩ (fun hHeld => ?_)
    clear hK K
    refine norm_ (a' := ?_) ?_ ?_
    rotate_left
    · show Act.put _ (some 21) _ = _
      simp only [Act.put, OpenRow.s1, OpenRow.s2, OpenRow.s3, i64_w, i32_w]
      rfl
    refine one_ (i := 4) (N := some 23) #[true, true, true, true, true, false] rfl rfl (by kernel_rfl) (by decide) (fun K hK => ?_)
    refine goes_ Try.func93 (by kernel_rfl) rfl #[.agg (arr .i64 (fe d)), .agg (arr .i64 (fe a))] (by rfl) rfl rfl (by simp only [List.map_toArray, List.map_cons, List.map_nil] <;> rfl) ?_
    with_reducible refine (HSx.out d _ hd dm).mono ?_
    rintro e w3 ⟨rfl, hb⟩
    refine ⟨_, rfl, ?_⟩
    have V5 := Aside0.mk (V4.out.step hb)
    have A5 := Aside0.mk (blk_below A4.out hb)
    clear hb
    refine hK.out _ _ ⟨V5.out, A5.out⟩ (fun hHeld => ?_)
    clear hK K
    refine norm_ (a' := ?_) ?_ ?_
    rotate_left
    · show Act.put _ (some 23) _ = _
      simp only [Act.put, OpenRow.s1, OpenRow.s2, OpenRow.s3, i64_w, i32_w]
      rfl
    refine pure_ (i := 5) (N := some 24) (v := ?_) (a' := ?_) #[true, true, true, true, true, true] rfl rfl (by kernel_rfl) (fun _ _ _ h => h) (Or.inl ⟨by rfl, ?_⟩) ?_ ?_
    rotate_left
    · intro w'; go_simp; with_reducible rfl
    rotate_left
    · simp only [Act.put, OpenRow.s1, OpenRow.s2, OpenRow.s3, i64_w, i32_w]; rfl
    refine done_ (by kernel_rfl) ?_

    have hz8 := limbs_getD 256 32 x 0 (by omega)
    rw [Nat.pow_zero, Nat.div_one] at hz8
    obtain ⟨v0, hv0⟩ : ∃ v0 : Int, v0 = ((x % 256 : Nat) : Int) := ⟨_, rfl⟩
    have HV0 := Aside0.mk (show rd (limbs 256 32 x) (0 : Int) = v0 by rw [hv0, ← hz8]; simp [rd])
    rcases Nat.mod_two_eq_zero_or_one x with ho | ho
    · have q1 : v0 % 2 = 0 := by omega
      have q2 : v0.tmod 2 = 0 := by rw [Int.tmod_eq_emod_of_nonneg (by omega)]; exact q1
      have EV := Aside0.mk (show rtV b = x by unfold rtV; rw [← ER.out, if_neg (by omega)])
      clear hv0 ho hz8
      go_wp2_with (first
        | ((with_reducible refine gate_dst (N := 26) rfl ?_); refine ld_arr rfl 40 (.tmp 4) rfl g rfl A5.out Try.underlying40 (m := 16) (by kernel_rfl) (fe_length _) ?_)
        | ((with_reducible refine (bytes_fe c _ hc).mono ?_); rintro e w8 ⟨vb, rfl, hR, hb⟩; rw [cm] at hR; obtain ⟨gv, cv, ev, _, _, _⟩ := Kd.R_form hR (by rw [limbs_length]; omega); rw [limbs_length] at ev; subst ev; obtain ⟨hx0, _⟩ := Kd.R_celln 0 hR (0 : Int) (by omega) (by omega); have hx1 : w8.cell? ⟨gv, 0, none⟩ = some (.int .u8 v0) := hx0.trans (congrArg some (congrArg (Value.int .u8) HV0.out)); clear hx0; have V8 := Aside0.mk (V5.out.step hb); have A8 := Aside0.mk (blk_below A5.out hb); clear hb hR)
        | ((with_reducible refine gate_dst (N := 35) rfl ?_); refine ld_arr rfl 40 (.tmp 4) rfl g rfl A8.out Try.underlying40 (m := 16) (by kernel_rfl) (fe_length _) ?_)
        | (refine st_arr rfl 40 (.tmp 2) (.tmp 35) rfl (w.heap.size + 1) (xs := fe c) rfl rfl (V8.out.blk 1 rfl) (m := 16) (by kernel_rfl) (fe_length _) (by rw [fe_length]; rfl) ?_; intro w' h1 h2 h4 h3; have H1 := Aside0.mk h1; have V9 := Aside0.mk (V8.out.row 1 rfl h1 h2 h3); clear h1 h2 h3 h4))
      exact bodyPost_ret (results_ct Try.results72 _ _ (w.heap.size + 1) 40 _ (0, 0) _ rfl H1.out Try.underlying40 rfl (by rw [arr_size, fe_length]; kernel_rfl)) rfl ⟨c, hc, by rw [EV.out, cm], rfl, V9.out.below⟩
    · have q1 : v0 % 2 = 1 := by omega
      have q2 : v0.tmod 2 = 1 := by rw [Int.tmod_eq_emod_of_nonneg (by omega)]; exact q1
      have EV := Aside0.mk (show rtV b = (PP - x) % PP by unfold rtV; rw [← ER.out, if_pos ho])
      have HN := Aside0.mk (fun W => (show Calls Try.prog 53 #[.agg #[.int .i64 0, .int .i64 0, .int .i64 0, .int .i64 0, .int .i64 0, .int .i64 0, .int .i64 0, .int .i64 0, .int .i64 0, .int .i64 0, .int .i64 0, .int .i64 0, .int .i64 0, .int .i64 0, .int .i64 0, .int .i64 0], .agg (arr .i64 (fe c))] W _ from HU.out c W hc))
      clear hv0 ho hz8
      go_wp2_with (first
        | ((with_reducible refine gate_dst (N := 26) rfl ?_); refine ld_arr rfl 40 (.tmp 4) rfl g rfl A5.out Try.underlying40 (m := 16) (by kernel_rfl) (fe_length _) ?_)
        | ((with_reducible refine (bytes_fe c _ hc).mono ?_); rintro e w8 ⟨vb, rfl, hR, hb⟩; rw [cm] at hR; obtain ⟨gv, cv, ev, _, _, _⟩ := Kd.R_form hR (by rw [limbs_length]; omega); rw [limbs_length] at ev; subst ev; obtain ⟨hx0, _⟩ := Kd.R_celln 0 hR (0 : Int) (by omega) (by omega); have hx1 : w8.cell? ⟨gv, 0, none⟩ = some (.int .u8 v0) := hx0.trans (congrArg some (congrArg (Value.int .u8) HV0.out)); clear hx0; have V8 := Aside0.mk (V5.out.step hb); have A8 := Aside0.mk (blk_below A5.out hb); clear hb hR)
        | ((with_reducible refine gate_dst (N := 33) rfl ?_); refine ld_arr rfl 40 (.tmp 4) rfl g rfl A8.out Try.underlying40 (m := 16) (by kernel_rfl) (fe_length _) ?_)
        | ((refine (HN.out _).mono ?_); rintro e w9 ⟨d9, hd9, dm9, rfl, hb⟩; have V9 := Aside0.mk (V8.out.step hb); have A9 := Aside0.mk (blk_below A8.out hb); clear hb)
        | (refine st_arr rfl 40 (.tmp 4) (.tmp 34) rfl g (xs := fe d9) rfl rfl A9.out (m := 16) (by kernel_rfl) (fe_length _) (by rw [fe_length, fe_length]) ?_; intro w7 h1 h2 h4 h3; have A10 := Aside0.mk h1; have V10 := Aside0.mk (St.other V9.out h2 h3 HG.out); clear h1 h2 h3 h4)
        | ((with_reducible refine gate_dst (N := 35) rfl ?_); refine ld_arr rfl 40 (.tmp 4) rfl g rfl A10.out Try.underlying40 (m := 16) (by kernel_rfl) (fe_length _) ?_)
        | (refine st_arr rfl 40 (.tmp 2) (.tmp 35) rfl (w.heap.size + 1) (xs := fe d9) rfl rfl (V10.out.blk 1 rfl) (m := 16) (by kernel_rfl) (fe_length _) (by rw [fe_length]; rfl) ?_; intro w' h1 h2 h4 h3; have H1 := Aside0.mk h1; have V11 := Aside0.mk (V10.out.row 1 rfl h1 h2 h3); clear h1 h2 h3 h4))
      exact bodyPost_ret (results_ct Try.results72 _ _ (w.heap.size + 1) 40 _ (0, 0) _ rfl H1.out Try.underlying40 rfl (by rw [arr_size, fe_length]; kernel_rfl)) rfl ⟨d9, hd9, by rw [EV.out, neg_mod2 d9 c dm9, cm], rfl, V11.out.below⟩
  · rw [if_neg h0] at E1
    have e1 := E1.out
    subst e1
    rw [decide_eq_false h0] at HSx
    by_cases h1 : p = b
    · have hok : rtOk b = true := by rw [EO.out, decide_eq_true h1]
      rw [hok, if_pos rfl]
      rw [decide_eq_true h1] at HSz
      clear hok hq hp hi h0 h1 E1 EO
      go_enter Try.func72, Try.ntmps72
      go_wp2_with (first
        | ((with_reducible refine gate_dst (N := 6) rfl ?_); refine ld_arr rfl 40 (.tmp 1) rfl w.heap.size rfl (S.out.blk 0 rfl) Try.underlying40 (m := 16) (by kernel_rfl) (fe_length _) ?_)
        | ((refine (HPw.out _).mono ?_); rintro e w1 ⟨c, hc, cm, rfl, hb⟩; have S1 := Aside0.mk (S.out.step hb); clear hb)
        | (refine st_arr rfl 40 (.tmp 4) (.tmp 7) rfl w1.heap.size (xs := fe c) rfl rfl (blk_new w1 (.cells (arr .i64 z16) 40)) (m := 16) (by kernel_rfl) (fe_length _) (by rw [fe_length]; rfl) ?_; intro w2 h1 h2 h4 h3; have A0 := Aside0.mk (blk_drew h1); have V0 := Aside0.mk (St.other (S1.out.alloc (.cells (arr .i64 z16) 40)) h2 h3 S1.out.size).drew; clear h1 h2 h3 h4))
      have HG := Aside0.mk S1.out.size
      generalize w1.heap.size = g at *
      clear S1 S
      go_wp2
      refine start_ (n := 6) (S := fun w' => St w [⟨40, .i64, fe a⟩, ⟨40, .i64, z16⟩] w' ∧ w'.heap[g]? = some (.cells (arr .i64 (fe c)) 40 (0, 0))) (ds := []) #[false, false, false, false, false, false] (by kernel_rfl) rfl rfl ⟨V0.out, A0.out⟩ (fun hHeld => ?_)
      refine take_ (i := 0) (N := some 8) (v := ?_) (a' := ?_) #[true, false, false, false, false, false] rfl rfl (by kernel_rfl) (fun _ _ _ h => h) (Or.inl ⟨by rfl, ?_⟩) hHeld ?_ ?_
      rotate_left
      · rintro w' ⟨s0, s1⟩
        refine (run_ld 40 (.tmp 4) (by rfl) g (by rfl) s1 Try.underlying40 (m := 16) (by kernel_rfl) (fe_length _)).trans ?_; with_reducible rfl
      rotate_left
      · simp only [Act.put, OpenRow.s1, OpenRow.s2, OpenRow.s3, i64_w, i32_w]; rfl
      refine take_ (i := 1) (N := some 9) (v := ?_) (a' := ?_) #[true, true, false, false, false, false] rfl rfl (by kernel_rfl) (fun _ _ _ h => h) (Or.inl ⟨by rfl, ?_⟩) hHeld ?_ ?_
      rotate_left
      · rintro w' ⟨s0, s1⟩
        refine (run_ld 40 (.tmp 4) (by rfl) g (by rfl) s1 Try.underlying40 (m := 16) (by kernel_rfl) (fe_length _)).trans ?_; with_reducible rfl
      rotate_left
      · simp only [Act.put, OpenRow.s1, OpenRow.s2, OpenRow.s3, i64_w, i32_w]; rfl
      refine take_ (i := 3) (N := some 11) (v := ?_) (a' := ?_) #[true, true, false, true, false, false] rfl rfl (by kernel_rfl) (fun _ _ _ h => h) (Or.inl ⟨by rfl, ?_⟩) hHeld ?_ ?_
      rotate_left
      · rintro w' ⟨s0, s1⟩
        refine (run_ld 40 (.tmp 1) (by rfl) w.heap.size (by rfl) (s0.blk 0 rfl) Try.underlying40 (m := 16) (by kernel_rfl) (fe_length _)).trans ?_; with_reducible rfl
      rotate_left
      · simp only [Act.put, OpenRow.s1, OpenRow.s2, OpenRow.s3, i64_w, i32_w]; rfl
      refine one_ (i := 2) (N := some 10) #[true, true, true, true, false, false] rfl rfl (by kernel_rfl) (by decide) (fun K hK => ?_)
      refine goes_ Try.func64 (by kernel_rfl) rfl #[.agg (arr .i64 (fe c)), .agg (arr .i64 (fe c))] (by rfl) rfl rfl (by simp only [List.map_toArray, List.map_cons, List.map_nil] <;> rfl) ?_
      with_reducible refine (HMx.out c _ hc cm).mono ?_
      rintro e w3 ⟨d, hd, dm, rfl, hb⟩
      refine ⟨_, rfl, ?_⟩
      have V1 := Aside0.mk (V0.out.step hb)
      have A1 := Aside0.mk (blk_below A0.out hb)
      clear hb
      refine hK.out _ _ ⟨V1.out, A1.out⟩ (fun hHeld => ?_)
      clear hK K
      refine norm_ (a' := ?_) ?_ ?_
      rotate_left
      · show Act.put _ (some 10) _ = _
        simp only [Act.put, OpenRow.s1, OpenRow.s2, OpenRow.s3, i64_w, i32_w]
        rfl
      refine one_ (i := 4) (N := some 12) #[true, true, true, true, true, false] rfl rfl (by kernel_rfl) (by decide) (fun K hK => ?_)
      refine goes_ Try.func93 (by kernel_rfl) rfl #[.agg (arr .i64 (fe d)), .agg (arr .i64 (fe a))] (by rfl) rfl rfl (by simp only [List.map_toArray, List.map_cons, List.map_nil] <;> rfl) ?_
      with_reducible refine (HSx.out d _ hd dm).mono ?_
      rintro e w3 ⟨rfl, hb⟩
      refine ⟨_, rfl, ?_⟩
      have V2 := Aside0.mk (V1.out.step hb)
      have A2 := Aside0.mk (blk_below A1.out hb)
      clear hb
      refine hK.out _ _ ⟨V2.out, A2.out⟩ (fun hHeld => ?_)
      clear hK K
      refine norm_ (a' := ?_) ?_ ?_
      rotate_left
      · show Act.put _ (some 12) _ = _
        simp only [Act.put, OpenRow.s1, OpenRow.s2, OpenRow.s3, i64_w, i32_w]
        rfl
      refine pure_ (i := 5) (N := some 13) (v := ?_) (a' := ?_) #[true, true, true, true, true, true] rfl rfl (by kernel_rfl) (fun _ _ _ h => h) (Or.inl ⟨by rfl, ?_⟩) ?_ ?_
      rotate_left
      · intro w'; go_simp; with_reducible rfl
      rotate_left
      · simp only [Act.put, OpenRow.s1, OpenRow.s2, OpenRow.s3, i64_w, i32_w]; rfl
      refine done_ (by kernel_rfl) ?_

      go_wp2_with (first
        | ((refine (HS2.out _).mono ?_); rintro e w4 ⟨rfl, hb⟩; have V3 := Aside0.mk (V2.out.step hb); have A3 := Aside0.mk (blk_below A2.out hb); clear hb)
        | ((refine (HPi.out _).mono ?_); rintro e w5 ⟨ci, hci, cim, rfl, hb⟩; have V4 := Aside0.mk (V3.out.step hb); have A4 := Aside0.mk (blk_below A3.out hb); clear hb)
        | (refine st_arr rfl 40 (.tmp 5) (.tmp 15) rfl w5.heap.size (xs := fe ci) rfl rfl (blk_new w5 (.cells (arr .i64 z16) 40)) (m := 16) (by kernel_rfl) (fe_length _) (by rw [fe_length]; rfl) ?_; intro w6 h1 h2 h4 h3; have G5 := Aside0.mk h1; have V5 := Aside0.mk (St.other (V4.out.alloc (.cells (arr .i64 z16) 40)) h2 h3 V4.out.size); have A5 := Aside0.mk ((h2 _ (ne_of_blk A4.out)).trans (blk_alloc A4.out _)); clear h1 h2 h3 h4)
        | ((with_reducible refine gate_dst (N := 16) rfl ?_); refine ld_arr rfl 40 (.tmp 4) rfl g rfl A5.out Try.underlying40 (m := 16) (by kernel_rfl) (fe_length _) ?_)
        | ((with_reducible refine gate_dst (N := 17) rfl ?_); refine ld_arr rfl 40 (.tmp 5) rfl w5.heap.size rfl G5.out Try.underlying40 (m := 16) (by kernel_rfl) (fe_length _) ?_)
        | ((with_reducible refine (HMi.out c ci _ hc cm hci cim).mono ?_); rintro e w7 ⟨cz, hcz, czm, rfl, hb⟩; have V6 := Aside0.mk (V5.out.step hb); have A6 := Aside0.mk (blk_below A5.out hb); clear hb)
        | (refine st_arr rfl 40 (.tmp 4) (.tmp 18) rfl g (xs := fe cz) rfl rfl A6.out (m := 16) (by kernel_rfl) (fe_length _) (by rw [fe_length, fe_length]) ?_; intro w7 h1 h2 h4 h3; have A7 := Aside0.mk h1; have V7 := Aside0.mk (St.other V6.out h2 h3 HG.out); clear h1 h2 h3 h4))
      have V8 := Aside0.mk V7.out.drew
      have A8 := Aside0.mk (blk_drew A7.out)

      refine start_ (n := 6) (S := fun w' => St w [⟨40, .i64, fe a⟩, ⟨40, .i64, z16⟩] w' ∧ w'.heap[g]? = some (.cells (arr .i64 (fe cz)) 40 (0, 0))) (ds := []) #[false, false, false, false, false, false] (by kernel_rfl) rfl rfl ⟨V8.out, A8.out⟩ (fun hHeld => ?_)
      refine take_ (i := 0) (N := some 19) (v := ?_) (a' := ?_) #[true, false, false, false, false, false] rfl rfl (by kernel_rfl) (fun _ _ _ h => h) (Or.inl ⟨by rfl, ?_⟩) hHeld ?_ ?_
      rotate_left
      · rintro w' ⟨s0, s1⟩
        refine (run_ld 40 (.tmp 4) (by rfl) g (by rfl) s1 Try.underlying40 (m := 16) (by kernel_rfl) (fe_length _)).trans ?_; with_reducible rfl
      rotate_left
      · simp only [Act.put, OpenRow.s1, OpenRow.s2, OpenRow.s3, i64_w, i32_w]; rfl
      refine take_ (i := 1) (N := some 20) (v := ?_) (a' := ?_) #[true, true, false, false, false, false] rfl rfl (by kernel_rfl) (fun _ _ _ h => h) (Or.inl ⟨by rfl, ?_⟩) hHeld ?_ ?_
      rotate_left
      · rintro w' ⟨s0, s1⟩
        refine (run_ld 40 (.tmp 4) (by rfl) g (by rfl) s1 Try.underlying40 (m := 16) (by kernel_rfl) (fe_length _)).trans ?_; with_reducible rfl
      rotate_left
      · simp only [Act.put, OpenRow.s1, OpenRow.s2, OpenRow.s3, i64_w, i32_w]; rfl
      refine take_ (i := 3) (N := some 22) (v := ?_) (a' := ?_) #[true, true, false, true, false, false] rfl rfl (by kernel_rfl) (fun _ _ _ h => h) (Or.inl ⟨by rfl, ?_⟩) hHeld ?_ ?_
      rotate_left
      · rintro w' ⟨s0, s1⟩
        refine (run_ld 40 (.tmp 1) (by rfl) w.heap.size (by rfl) (s0.blk 0 rfl) Try.underlying40 (m := 16) (by kernel_rfl) (fe_length _)).trans ?_; with_reducible rfl
      rotate_left
      · simp only [Act.put, OpenRow.s1, OpenRow.s2, OpenRow.s3, i64_w, i32_w]; rfl
      refine one_ (i := 2) (N := some 21) #[true, true, true, true, false, false] rfl rfl (by kernel_rfl) (by decide) (fun K hK => ?_)
      refine goes_ Try.func64 (by kernel_rfl) rfl #[.agg (arr .i64 (fe cz)), .agg (arr .i64 (fe cz))] (by rfl) rfl rfl (by simp only [List.map_toArray, List.map_cons, List.map_nil] <;> rfl) ?_
      with_reducible refine (HMz.out cz _ hcz czm).mono ?_
      rintro e w3 ⟨d5, hd5, d5m, rfl, hb⟩
      refine ⟨_, rfl, ?_⟩
      have V9 := Aside0.mk (V8.out.step hb)
      have A9 := Aside0.mk (blk_below A8.out hb)
      clear hb
      refine hK.out _ _ ⟨V9.out, A9.out⟩ (fun hHeld => ?_)
      clear hK K
      refine norm_ (a' := ?_) ?_ ?_
      rotate_left
      · show Act.put _ (some 21) _ = _
        simp only [Act.put, OpenRow.s1, OpenRow.s2, OpenRow.s3, i64_w, i32_w]
        rfl
      refine one_ (i := 4) (N := some 23) #[true, true, true, true, true, false] rfl rfl (by kernel_rfl) (by decide) (fun K hK => ?_)
      refine goes_ Try.func93 (by kernel_rfl) rfl #[.agg (arr .i64 (fe d5)), .agg (arr .i64 (fe a))] (by rfl) rfl rfl (by simp only [List.map_toArray, List.map_cons, List.map_nil] <;> rfl) ?_
      with_reducible refine (HSz.out d5 _ hd5 d5m).mono ?_
      rintro e w3 ⟨rfl, hb⟩
      refine ⟨_, rfl, ?_⟩
      have V10 := Aside0.mk (V9.out.step hb)
      have A10 := Aside0.mk (blk_below A9.out hb)
      clear hb
      refine hK.out _ _ ⟨V10.out, A10.out⟩ (fun hHeld => ?_)
      clear hK K
      refine norm_ (a' := ?_) ?_ ?_
      rotate_left
      · show Act.put _ (some 23) _ = _
        simp only [Act.put, OpenRow.s1, OpenRow.s2, OpenRow.s3, i64_w, i32_w]
        rfl
      refine pure_ (i := 5) (N := some 24) (v := ?_) (a' := ?_) #[true, true, true, true, true, true] rfl rfl (by kernel_rfl) (fun _ _ _ h => h) (Or.inl ⟨by rfl, ?_⟩) ?_ ?_
      rotate_left
      · intro w'; go_simp; with_reducible rfl
      rotate_left
      · simp only [Act.put, OpenRow.s1, OpenRow.s2, OpenRow.s3, i64_w, i32_w]; rfl
      refine done_ (by kernel_rfl) ?_

      have hz8 := limbs_getD 256 32 z 0 (by omega)
      rw [Nat.pow_zero, Nat.div_one] at hz8
      obtain ⟨v0, hv0⟩ : ∃ v0 : Int, v0 = ((z % 256 : Nat) : Int) := ⟨_, rfl⟩
      have HV0 := Aside0.mk (show rd (limbs 256 32 z) (0 : Int) = v0 by rw [hv0, ← hz8]; simp [rd])
      rcases Nat.mod_two_eq_zero_or_one z with ho | ho
      · have q1 : v0 % 2 = 0 := by omega
        have q2 : v0.tmod 2 = 0 := by rw [Int.tmod_eq_emod_of_nonneg (by omega)]; exact q1
        have EV := Aside0.mk (show rtV b = z by unfold rtV; rw [← ER.out, if_neg (by omega)])
        clear hv0 ho hz8
        go_wp2_with (first
          | ((with_reducible refine gate_dst (N := 26) rfl ?_); refine ld_arr rfl 40 (.tmp 4) rfl g rfl A10.out Try.underlying40 (m := 16) (by kernel_rfl) (fe_length _) ?_)
          | ((with_reducible refine (bytes_fe cz _ hcz).mono ?_); rintro e w8 ⟨vb, rfl, hR, hb⟩; rw [czm] at hR; obtain ⟨gv, cv, ev, _, _, _⟩ := Kd.R_form hR (by rw [limbs_length]; omega); rw [limbs_length] at ev; subst ev; obtain ⟨hx0, _⟩ := Kd.R_celln 0 hR (0 : Int) (by omega) (by omega); have hx1 : w8.cell? ⟨gv, 0, none⟩ = some (.int .u8 v0) := hx0.trans (congrArg some (congrArg (Value.int .u8) HV0.out)); clear hx0; have V8 := Aside0.mk (V10.out.step hb); have A8 := Aside0.mk (blk_below A10.out hb); clear hb hR)
          | ((with_reducible refine gate_dst (N := 35) rfl ?_); refine ld_arr rfl 40 (.tmp 4) rfl g rfl A8.out Try.underlying40 (m := 16) (by kernel_rfl) (fe_length _) ?_)
          | (refine st_arr rfl 40 (.tmp 2) (.tmp 35) rfl (w.heap.size + 1) (xs := fe cz) rfl rfl (V8.out.blk 1 rfl) (m := 16) (by kernel_rfl) (fe_length _) (by rw [fe_length]; rfl) ?_; intro w' h1 h2 h4 h3; have H1 := Aside0.mk h1; have V9 := Aside0.mk (V8.out.row 1 rfl h1 h2 h3); clear h1 h2 h3 h4))
        exact bodyPost_ret (results_ct Try.results72 _ _ (w.heap.size + 1) 40 _ (0, 0) _ rfl H1.out Try.underlying40 rfl (by rw [arr_size, fe_length]; kernel_rfl)) rfl ⟨cz, hcz, by rw [EV.out, czm], rfl, V9.out.below⟩
      · have q1 : v0 % 2 = 1 := by omega
        have q2 : v0.tmod 2 = 1 := by rw [Int.tmod_eq_emod_of_nonneg (by omega)]; exact q1
        have EV := Aside0.mk (show rtV b = (PP - z) % PP by unfold rtV; rw [← ER.out, if_pos ho])
        have HN := Aside0.mk (fun W => (show Calls Try.prog 53 #[.agg #[.int .i64 0, .int .i64 0, .int .i64 0, .int .i64 0, .int .i64 0, .int .i64 0, .int .i64 0, .int .i64 0, .int .i64 0, .int .i64 0, .int .i64 0, .int .i64 0, .int .i64 0, .int .i64 0, .int .i64 0, .int .i64 0], .agg (arr .i64 (fe cz))] W _ from HU.out cz W hcz))
        clear hv0 ho hz8
        go_wp2_with (first
          | ((with_reducible refine gate_dst (N := 26) rfl ?_); refine ld_arr rfl 40 (.tmp 4) rfl g rfl A10.out Try.underlying40 (m := 16) (by kernel_rfl) (fe_length _) ?_)
          | ((with_reducible refine (bytes_fe cz _ hcz).mono ?_); rintro e w8 ⟨vb, rfl, hR, hb⟩; rw [czm] at hR; obtain ⟨gv, cv, ev, _, _, _⟩ := Kd.R_form hR (by rw [limbs_length]; omega); rw [limbs_length] at ev; subst ev; obtain ⟨hx0, _⟩ := Kd.R_celln 0 hR (0 : Int) (by omega) (by omega); have hx1 : w8.cell? ⟨gv, 0, none⟩ = some (.int .u8 v0) := hx0.trans (congrArg some (congrArg (Value.int .u8) HV0.out)); clear hx0; have V8 := Aside0.mk (V10.out.step hb); have A8 := Aside0.mk (blk_below A10.out hb); clear hb hR)
          | ((with_reducible refine gate_dst (N := 33) rfl ?_); refine ld_arr rfl 40 (.tmp 4) rfl g rfl A8.out Try.underlying40 (m := 16) (by kernel_rfl) (fe_length _) ?_)
          | ((refine (HN.out _).mono ?_); rintro e w9 ⟨d9, hd9, dm9, rfl, hb⟩; have V9 := Aside0.mk (V8.out.step hb); have A9 := Aside0.mk (blk_below A8.out hb); clear hb)
          | (refine st_arr rfl 40 (.tmp 4) (.tmp 34) rfl g (xs := fe d9) rfl rfl A9.out (m := 16) (by kernel_rfl) (fe_length _) (by rw [fe_length, fe_length]) ?_; intro w7 h1 h2 h4 h3; have A10 := Aside0.mk h1; have V10 := Aside0.mk (St.other V9.out h2 h3 HG.out); clear h1 h2 h3 h4)
          | ((with_reducible refine gate_dst (N := 35) rfl ?_); refine ld_arr rfl 40 (.tmp 4) rfl g rfl A10.out Try.underlying40 (m := 16) (by kernel_rfl) (fe_length _) ?_)
          | (refine st_arr rfl 40 (.tmp 2) (.tmp 35) rfl (w.heap.size + 1) (xs := fe d9) rfl rfl (V10.out.blk 1 rfl) (m := 16) (by kernel_rfl) (fe_length _) (by rw [fe_length]; rfl) ?_; intro w' h1 h2 h4 h3; have H1 := Aside0.mk h1; have V11 := Aside0.mk (V10.out.row 1 rfl h1 h2 h3); clear h1 h2 h3 h4))
        exact bodyPost_ret (results_ct Try.results72 _ _ (w.heap.size + 1) 40 _ (0, 0) _ rfl H1.out Try.underlying40 rfl (by rw [arr_size, fe_length]; kernel_rfl)) rfl ⟨d9, hd9, by rw [EV.out, neg_mod2 d9 cz dm9, czm], rfl, V11.out.below⟩
    · have hok : rtOk b = false := by rw [EO.out, decide_eq_false h1]
      rw [hok, if_neg (by decide)]
      rw [decide_eq_false h1] at HSz
      have f0 : fe 0 = [0, 0, 0, 0, 0, 0, 0, 0, 0, 0, 0, 0, 0, 0, 0, 0] := by decide
      clear hok hq hp hi h0 h1 E1 EO HU
      go_enter Try.func72, Try.ntmps72
      go_wp2_with (first
        | ((with_reducible refine gate_dst (N := 6) rfl ?_); refine ld_arr rfl 40 (.tmp 1) rfl w.heap.size rfl (S.out.blk 0 rfl) Try.underlying40 (m := 16) (by kernel_rfl) (fe_length _) ?_)
        | ((refine (HPw.out _).mono ?_); rintro e w1 ⟨c, hc, cm, rfl, hb⟩; have S1 := Aside0.mk (S.out.step hb); clear hb)
        | (refine st_arr rfl 40 (.tmp 4) (.tmp 7) rfl w1.heap.size (xs := fe c) rfl rfl (blk_new w1 (.cells (arr .i64 z16) 40)) (m := 16) (by kernel_rfl) (fe_length _) (by rw [fe_length]; rfl) ?_; intro w2 h1 h2 h4 h3; have A0 := Aside0.mk (blk_drew h1); have V0 := Aside0.mk (St.other (S1.out.alloc (.cells (arr .i64 z16) 40)) h2 h3 S1.out.size).drew; clear h1 h2 h3 h4))
      have HG := Aside0.mk S1.out.size
      generalize w1.heap.size = g at *
      clear S1 S
      go_wp2
      refine start_ (n := 6) (S := fun w' => St w [⟨40, .i64, fe a⟩, ⟨40, .i64, z16⟩] w' ∧ w'.heap[g]? = some (.cells (arr .i64 (fe c)) 40 (0, 0))) (ds := []) #[false, false, false, false, false, false] (by kernel_rfl) rfl rfl ⟨V0.out, A0.out⟩ (fun hHeld => ?_)
      refine take_ (i := 0) (N := some 8) (v := ?_) (a' := ?_) #[true, false, false, false, false, false] rfl rfl (by kernel_rfl) (fun _ _ _ h => h) (Or.inl ⟨by rfl, ?_⟩) hHeld ?_ ?_
      rotate_left
      · rintro w' ⟨s0, s1⟩
        refine (run_ld 40 (.tmp 4) (by rfl) g (by rfl) s1 Try.underlying40 (m := 16) (by kernel_rfl) (fe_length _)).trans ?_; with_reducible rfl
      rotate_left
      · simp only [Act.put, OpenRow.s1, OpenRow.s2, OpenRow.s3, i64_w, i32_w]; rfl
      refine take_ (i := 1) (N := some 9) (v := ?_) (a' := ?_) #[true, true, false, false, false, false] rfl rfl (by kernel_rfl) (fun _ _ _ h => h) (Or.inl ⟨by rfl, ?_⟩) hHeld ?_ ?_
      rotate_left
      · rintro w' ⟨s0, s1⟩
        refine (run_ld 40 (.tmp 4) (by rfl) g (by rfl) s1 Try.underlying40 (m := 16) (by kernel_rfl) (fe_length _)).trans ?_; with_reducible rfl
      rotate_left
      · simp only [Act.put, OpenRow.s1, OpenRow.s2, OpenRow.s3, i64_w, i32_w]; rfl
      refine take_ (i := 3) (N := some 11) (v := ?_) (a' := ?_) #[true, true, false, true, false, false] rfl rfl (by kernel_rfl) (fun _ _ _ h => h) (Or.inl ⟨by rfl, ?_⟩) hHeld ?_ ?_
      rotate_left
      · rintro w' ⟨s0, s1⟩
        refine (run_ld 40 (.tmp 1) (by rfl) w.heap.size (by rfl) (s0.blk 0 rfl) Try.underlying40 (m := 16) (by kernel_rfl) (fe_length _)).trans ?_; with_reducible rfl
      rotate_left
      · simp only [Act.put, OpenRow.s1, OpenRow.s2, OpenRow.s3, i64_w, i32_w]; rfl
      refine one_ (i := 2) (N := some 10) #[true, true, true, true, false, false] rfl rfl (by kernel_rfl) (by decide) (fun K hK => ?_)
      refine goes_ Try.func64 (by kernel_rfl) rfl #[.agg (arr .i64 (fe c)), .agg (arr .i64 (fe c))] (by rfl) rfl rfl (by simp only [List.map_toArray, List.map_cons, List.map_nil] <;> rfl) ?_
      with_reducible refine (HMx.out c _ hc cm).mono ?_
      rintro e w3 ⟨d, hd, dm, rfl, hb⟩
      refine ⟨_, rfl, ?_⟩
      have V1 := Aside0.mk (V0.out.step hb)
      have A1 := Aside0.mk (blk_below A0.out hb)
      clear hb
      refine hK.out _ _ ⟨V1.out, A1.out⟩ (fun hHeld => ?_)
      clear hK K
      refine norm_ (a' := ?_) ?_ ?_
      rotate_left
      · show Act.put _ (some 10) _ = _
        simp only [Act.put, OpenRow.s1, OpenRow.s2, OpenRow.s3, i64_w, i32_w]
        rfl
      refine one_ (i := 4) (N := some 12) #[true, true, true, true, true, false] rfl rfl (by kernel_rfl) (by decide) (fun K hK => ?_)
      refine goes_ Try.func93 (by kernel_rfl) rfl #[.agg (arr .i64 (fe d)), .agg (arr .i64 (fe a))] (by rfl) rfl rfl (by simp only [List.map_toArray, List.map_cons, List.map_nil] <;> rfl) ?_
      with_reducible refine (HSx.out d _ hd dm).mono ?_
      rintro e w3 ⟨rfl, hb⟩
      refine ⟨_, rfl, ?_⟩
      have V2 := Aside0.mk (V1.out.step hb)
      have A2 := Aside0.mk (blk_below A1.out hb)
      clear hb
      refine hK.out _ _ ⟨V2.out, A2.out⟩ (fun hHeld => ?_)
      clear hK K
      refine norm_ (a' := ?_) ?_ ?_
      rotate_left
      · show Act.put _ (some 12) _ = _
        simp only [Act.put, OpenRow.s1, OpenRow.s2, OpenRow.s3, i64_w, i32_w]
        rfl
      refine pure_ (i := 5) (N := some 13) (v := ?_) (a' := ?_) #[true, true, true, true, true, true] rfl rfl (by kernel_rfl) (fun _ _ _ h => h) (Or.inl ⟨by rfl, ?_⟩) ?_ ?_
      rotate_left
      · intro w'; go_simp; with_reducible rfl
      rotate_left
      · simp only [Act.put, OpenRow.s1, OpenRow.s2, OpenRow.s3, i64_w, i32_w]; rfl
      refine done_ (by kernel_rfl) ?_

      go_wp2_with (first
        | ((refine (HS2.out _).mono ?_); rintro e w4 ⟨rfl, hb⟩; have V3 := Aside0.mk (V2.out.step hb); have A3 := Aside0.mk (blk_below A2.out hb); clear hb)
        | ((refine (HPi.out _).mono ?_); rintro e w5 ⟨ci, hci, cim, rfl, hb⟩; have V4 := Aside0.mk (V3.out.step hb); have A4 := Aside0.mk (blk_below A3.out hb); clear hb)
        | (refine st_arr rfl 40 (.tmp 5) (.tmp 15) rfl w5.heap.size (xs := fe ci) rfl rfl (blk_new w5 (.cells (arr .i64 z16) 40)) (m := 16) (by kernel_rfl) (fe_length _) (by rw [fe_length]; rfl) ?_; intro w6 h1 h2 h4 h3; have G5 := Aside0.mk h1; have V5 := Aside0.mk (St.other (V4.out.alloc (.cells (arr .i64 z16) 40)) h2 h3 V4.out.size); have A5 := Aside0.mk ((h2 _ (ne_of_blk A4.out)).trans (blk_alloc A4.out _)); clear h1 h2 h3 h4)
        | ((with_reducible refine gate_dst (N := 16) rfl ?_); refine ld_arr rfl 40 (.tmp 4) rfl g rfl A5.out Try.underlying40 (m := 16) (by kernel_rfl) (fe_length _) ?_)
        | ((with_reducible refine gate_dst (N := 17) rfl ?_); refine ld_arr rfl 40 (.tmp 5) rfl w5.heap.size rfl G5.out Try.underlying40 (m := 16) (by kernel_rfl) (fe_length _) ?_)
        | ((with_reducible refine (HMi.out c ci _ hc cm hci cim).mono ?_); rintro e w7 ⟨cz, hcz, czm, rfl, hb⟩; have V6 := Aside0.mk (V5.out.step hb); have A6 := Aside0.mk (blk_below A5.out hb); clear hb)
        | (refine st_arr rfl 40 (.tmp 4) (.tmp 18) rfl g (xs := fe cz) rfl rfl A6.out (m := 16) (by kernel_rfl) (fe_length _) (by rw [fe_length, fe_length]) ?_; intro w7 h1 h2 h4 h3; have A7 := Aside0.mk h1; have V7 := Aside0.mk (St.other V6.out h2 h3 HG.out); clear h1 h2 h3 h4))
      have V8 := Aside0.mk V7.out.drew
      have A8 := Aside0.mk (blk_drew A7.out)

      refine start_ (n := 6) (S := fun w' => St w [⟨40, .i64, fe a⟩, ⟨40, .i64, z16⟩] w' ∧ w'.heap[g]? = some (.cells (arr .i64 (fe cz)) 40 (0, 0))) (ds := []) #[false, false, false, false, false, false] (by kernel_rfl) rfl rfl ⟨V8.out, A8.out⟩ (fun hHeld => ?_)
      refine take_ (i := 0) (N := some 19) (v := ?_) (a' := ?_) #[true, false, false, false, false, false] rfl rfl (by kernel_rfl) (fun _ _ _ h => h) (Or.inl ⟨by rfl, ?_⟩) hHeld ?_ ?_
      rotate_left
      · rintro w' ⟨s0, s1⟩
        refine (run_ld 40 (.tmp 4) (by rfl) g (by rfl) s1 Try.underlying40 (m := 16) (by kernel_rfl) (fe_length _)).trans ?_; with_reducible rfl
      rotate_left
      · simp only [Act.put, OpenRow.s1, OpenRow.s2, OpenRow.s3, i64_w, i32_w]; rfl
      refine take_ (i := 1) (N := some 20) (v := ?_) (a' := ?_) #[true, true, false, false, false, false] rfl rfl (by kernel_rfl) (fun _ _ _ h => h) (Or.inl ⟨by rfl, ?_⟩) hHeld ?_ ?_
      rotate_left
      · rintro w' ⟨s0, s1⟩
        refine (run_ld 40 (.tmp 4) (by rfl) g (by rfl) s1 Try.underlying40 (m := 16) (by kernel_rfl) (fe_length _)).trans ?_; with_reducible rfl
      rotate_left
      · simp only [Act.put, OpenRow.s1, OpenRow.s2, OpenRow.s3, i64_w, i32_w]; rfl
      refine take_ (i := 3) (N := some 22) (v := ?_) (a' := ?_) #[true, true, false, true, false, false] rfl rfl (by kernel_rfl) (fun _ _ _ h => h) (Or.inl ⟨by rfl, ?_⟩) hHeld ?_ ?_
      rotate_left
      · rintro w' ⟨s0, s1⟩
        refine (run_ld 40 (.tmp 1) (by rfl) w.heap.size (by rfl) (s0.blk 0 rfl) Try.underlying40 (m := 16) (by kernel_rfl) (fe_length _)).trans ?_; with_reducible rfl
      rotate_left
      · simp only [Act.put, OpenRow.s1, OpenRow.s2, OpenRow.s3, i64_w, i32_w]; rfl
      refine one_ (i := 2) (N := some 21) #[true, true, true, true, false, false] rfl rfl (by kernel_rfl) (by decide) (fun K hK => ?_)
      refine goes_ Try.func64 (by kernel_rfl) rfl #[.agg (arr .i64 (fe cz)), .agg (arr .i64 (fe cz))] (by rfl) rfl rfl (by simp only [List.map_toArray, List.map_cons, List.map_nil] <;> rfl) ?_
      with_reducible refine (HMz.out cz _ hcz czm).mono ?_
      rintro e w3 ⟨d5, hd5, d5m, rfl, hb⟩
      refine ⟨_, rfl, ?_⟩
      have V9 := Aside0.mk (V8.out.step hb)
      have A9 := Aside0.mk (blk_below A8.out hb)
      clear hb
      refine hK.out _ _ ⟨V9.out, A9.out⟩ (fun hHeld => ?_)
      clear hK K
      refine norm_ (a' := ?_) ?_ ?_
      rotate_left
      · show Act.put _ (some 21) _ = _
        simp only [Act.put, OpenRow.s1, OpenRow.s2, OpenRow.s3, i64_w, i32_w]
        rfl
      refine one_ (i := 4) (N := some 23) #[true, true, true, true, true, false] rfl rfl (by kernel_rfl) (by decide) (fun K hK => ?_)
      refine goes_ Try.func93 (by kernel_rfl) rfl #[.agg (arr .i64 (fe d5)), .agg (arr .i64 (fe a))] (by rfl) rfl rfl (by simp only [List.map_toArray, List.map_cons, List.map_nil] <;> rfl) ?_
      with_reducible refine (HSz.out d5 _ hd5 d5m).mono ?_
      rintro e w3 ⟨rfl, hb⟩
      refine ⟨_, rfl, ?_⟩
      have V10 := Aside0.mk (V9.out.step hb)
      have A10 := Aside0.mk (blk_below A9.out hb)
      clear hb
      refine hK.out _ _ ⟨V10.out, A10.out⟩ (fun hHeld => ?_)
      clear hK K
      refine norm_ (a' := ?_) ?_ ?_
      rotate_left
      · show Act.put _ (some 23) _ = _
        simp only [Act.put, OpenRow.s1, OpenRow.s2, OpenRow.s3, i64_w, i32_w]
        rfl
      refine pure_ (i := 5) (N := some 24) (v := ?_) (a' := ?_) #[true, true, true, true, true, true] rfl rfl (by kernel_rfl) (fun _ _ _ h => h) (Or.inl ⟨by rfl, ?_⟩) ?_ ?_
      rotate_left
      · intro w'; go_simp; with_reducible rfl
      rotate_left
      · simp only [Act.put, OpenRow.s1, OpenRow.s2, OpenRow.s3, i64_w, i32_w]; rfl
      refine done_ (by kernel_rfl) ?_

      go_wp2_with (first
        | (refine st_arr rfl 40 (.tmp 2) (.tmp 25) rfl (w.heap.size + 1) (xs := [0, 0, 0, 0, 0, 0, 0, 0, 0, 0, 0, 0, 0, 0, 0, 0]) rfl rfl (V10.out.blk 1 rfl) (m := 16) (by kernel_rfl) rfl rfl ?_; intro w' h1 h2 h4 h3; have H1 := Aside0.mk h1; have V11 := Aside0.mk (V10.out.row 1 rfl h1 h2 h3); clear h1 h2 h3 h4))
      exact bodyPost_ret (results_ct Try.results72 _ _ (w.heap.size + 1) 40 _ (0, 0) _ rfl H1.out Try.underlying40 rfl (by kernel_rfl)) rfl ⟨0, by decide, by decide, by rw [f0]; rfl, V11.out.below⟩


/-! ### spec_l05D: function 100 -/
theorem curve_d (d : Nat) (i c : Nat) (hd : (d + 121665) % PP = 0 % PP) (hi : i % PP = 121666 ^ (PP - 2) % PP) (hc : c % PP = d * i % PP) : c % PP = cuN := by
  have h := neg_mod2 d 121665 hd
  rw [hc, Nat.mul_mod, h, hi, ← Prime.pm_eq PP 255 121666 (PP - 2) (by decide)]
  decide +kernel
set_option maxHeartbeats 1000000 in
set_option maxRecDepth 100000 in
theorem spec_l05D.calls (w : World) :
    Calls Try.prog 100 #[] w fun e w' => ∃ c, c < BB ∧ c % PP = cuN ∧ e = .returned (.agg (arr .i64 (fe c))) ∧ Below w.heap.size w w' := by
  have H1 := Aside0.mk (fun W => (show Calls Try.prog 89 #[.int .i64 121665] W _ from spec_l05Small.calls 121665 W (by decide)))
  have H2 := Aside0.mk (fun W => (show Calls Try.prog 89 #[.int .i64 121666] W _ from spec_l05Small.calls 121666 W (by decide)))
  have HU := Aside0.mk (fun W => (show Calls Try.prog 53 #[.agg #[.int .i64 0, .int .i64 0, .int .i64 0, .int .i64 0, .int .i64 0, .int .i64 0, .int .i64 0, .int .i64 0, .int .i64 0, .int .i64 0, .int .i64 0, .int .i64 0, .int .i64 0, .int .i64 0, .int .i64 0, .int .i64 0], .agg (arr .i64 (fe 121665))] W (fun e w' => ∃ c, c < BB ∧ (c + 121665) % PP = 0 % PP ∧ e = .returned (.agg (arr .i64 (fe c))) ∧ Below W.heap.size W w') from by
    have h := spec_l05Sub.calls 0 121665 W (by decide) (by decide)
    rw [show fe 0 = [0, 0, 0, 0, 0, 0, 0, 0, 0, 0, 0, 0, 0, 0, 0, 0] from by decide] at h
    exact h))
  have HI := Aside0.mk (fun W => spec_l05Inverse.calls 121666 W (by decide))
  have S := Aside0.mk ((St.start w).push rfl 40 .i64 z16)
  have HCD := Aside0.mk curve_d
  generalize 121666 ^ (PP - 2) % PP = q at *
  generalize cuN = cn at *
  go_enter Try.func100, Try.ntmps100
  go_wp2_with (first
    | ((with_reducible refine (H1.out _).mono ?_); rintro e w1 ⟨rfl, hb⟩; have S1 := Aside0.mk (S.out.step hb); clear hb)
    | ((refine (HU.out _).mono ?_); rintro e w2 ⟨d, hd, dm, rfl, hb⟩; have S2 := Aside0.mk (S1.out.step hb); clear hb)
    | ((with_reducible refine (H2.out _).mono ?_); rintro e w3 ⟨rfl, hb⟩; have S3 := Aside0.mk (S2.out.step hb); clear hb)
    | ((with_reducible refine (HI.out _).mono ?_); rintro e w4 ⟨i, hi, im, rfl, hb⟩; have S4 := Aside0.mk (S3.out.step hb); clear hb)
    | ((with_reducible refine (spec_l05Mul.calls d i _ hd hi).mono ?_); rintro e w5 ⟨c, hc, cm, rfl, hb⟩; have S5 := Aside0.mk (S4.out.step hb); clear hb)
    | (refine st_arr rfl 40 (.tmp 0) (.tmp 6) rfl w.heap.size (xs := fe c) rfl rfl (S5.out.blk 0 rfl) (m := 16) (by kernel_rfl) (fe_length _) (by rw [fe_length]; rfl) ?_; intro w' h1 h2 h4 h3; have HH := Aside0.mk h1; have S6 := Aside0.mk (S5.out.row 0 rfl h1 h2 h3); clear h1 h2 h3 h4))
  exact bodyPost_ret (results_cell_row Try.results100 _ _ w.heap.size 40 _ (0, 0) _ rfl HH.out Try.underlying40 rfl (by rw [arr_size, fe_length]; kernel_rfl)) rfl ⟨c, hc, HCD.out d i c dm im cm, rfl, S6.out.below⟩


end Go.Proofs.Ytijeackkgcnbgaa.XO
