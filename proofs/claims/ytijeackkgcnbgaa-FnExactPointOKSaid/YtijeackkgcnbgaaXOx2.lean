-- Written by a program of this session (xp.py over the kit's printer, with functions proved by hand). Lean checks it.
import Derived.Test.YtijeackkgcnbgaaXOx0
import Derived.Test.YtijeackkgcnbgaaXOx1
namespace Go.Proofs.Ytijeackkgcnbgaa.XO
open Go.Proofs.Ytijeackkgcnbgaa.Limb Go.Proofs.Ytijeackkgcnbgaa.Arr Go.Proofs.Ytijeackkgcnbgaa.FldA Go.Proofs.Ytijeackkgcnbgaa.FldB Go.Proofs.Ytijeackkgcnbgaa.FldC Go.Proofs.Ytijeackkgcnbgaa.FldS Go.Proofs.Ytijeackkgcnbgaa.FldP Go.Proofs.Ytijeackkgcnbgaa.FldW Go.Proofs.Ytijeackkgcnbgaa.FldM Go.Proofs.Ytijeackkgcnbgaa.FldT Go.Proofs.Ytijeackkgcnbgaa.FldRoot Go.Proofs.Ytijeackkgcnbgaa.FldRoot2 Go.Proofs.Ytijeackkgcnbgaa.FldPt Go.Proofs.Ytijeackkgcnbgaa.St Go.Proofs.Ytijeackkgcnbgaa.StOps Go.Proofs.Ytijeackkgcnbgaa.StMid Go.Proofs.Ytijeackkgcnbgaa.StEq Go.Proofs.Ytijeackkgcnbgaa.StPt Go.Proofs.Ytijeackkgcnbgaa.StIdx
open Go.RowKit Go.Proofs.YtijeackkgcnbgaaW.PrintWords Go.Proofs.YtijeackkgcnbgaaW.PrintLast Go.Proofs.YtijeackkgcnbgaaW.PrintMore
attribute [local go_sem] max2_int min2_int max_two min_two max_three min_three max_four min_four   -- for this text's walks alone
set_option linter.unusedVariables false
set_option linter.unusedSimpArgs false

/-! ### spec_l05Is: function 40 -/
def spec_l05Is.f (l0 : List Int) : Option (Bool) := if okB l0 then some (isEl l0) else none
set_option maxHeartbeats 400000 in
set_option maxRecDepth 100000 in
theorem spec_l05Is.calls (A0 : Option Addr) (c0 : Nat) (l0 : List Int) (r : Bool) (w : World) (hr0 : Kd.C (Kd.int .u8) w A0 l0.length l0) (hc0 : l0.length ≤ c0) (h : spec_l05Is.f l0 = some r) :
    Calls Try.prog 40 #[.slice A0 l0.length c0] w fun e w' => e = .returned (.bool r) ∧ Below w.heap.size w w' := by
  unfold spec_l05Is.f at h
  by_cases ho : okB l0 = true
  · rw [if_pos ho] at h
    obtain rfl := Option.some.inj h
    clear h
    by_cases hl : l0.length = 32
    · have ok := okB_ok l0 ho
      have hx := bval_lt32 l0 ok hl
      have e : isEl l0 = ((strOfNums (limbs 256 32 (bval l0 % PP))).toList == (strOfNums l0).toList) := by
        have e1 := limbs_lval 256 (by decide) l0 ok
        rw [hl] at e1
        unfold isEl
        rw [decide_eq_true hl, Bool.true_and]
        by_cases hp : bval l0 < PP
        · rw [Nat.mod_eq_of_lt hp, decide_eq_true hp, show limbs 256 32 (bval l0) = l0 from e1, beq_self_eq_true]
        · rw [decide_eq_false hp]
          symm
          rw [beq_eq_false_iff_ne]
          intro hs
          have e2 := str_inj (limbs_ok _ (by decide) _ _) ok hs
          have e3 := lval_limbs 256 (by decide) 32 (bval l0 % PP)
          rw [e2] at e3
          have e4 := bval_cast l0 ok
          have h5 := Nat.mod_lt (bval l0) (show 0 < PP by decide)
          have h6 : PP < 256 ^ 32 := by decide
          rw [Nat.mod_eq_of_lt (by omega)] at e3
          omega
      have CV := Aside0.mk (fun (W : World) (hb : Below w.heap.size w W) => conv_C (P := Try.prog) 22 9 5 Try.underlying22 Try.underlying5 Try.underlying9 W A0 c0 l0 (Kd.C_below hr0 hb) (by omega))
      have HC1 := Aside0.mk (fun (W : World) (hb : Below w.heap.size w W) => spec_l05Of.calls A0 c0 l0 W (Kd.C_below hr0 hb) hl ok)
      have HC2 := Aside0.mk (fun (W : World) => spec_l05Bytes.calls (fe (bval l0)) W (fe_bd _) (fe_length _) (by rw [lstN_fe _ hx]; exact fe_ok _))
      rw [bys_fe _ hx] at HC2
      rw [ofS_fe l0 ok hl, hl] at HC1
      rw [hl] at CV
      rw [hl, e]
      clear e hx ok ho hr0 hc0 hl
      have HB := Aside0.mk (Below.refl w.heap.size w)
      generalize strOfNums l0 = s0 at *
      generalize bval l0 = x at *
      go_enter Try.func40, Try.ntmps40
      go_wp2
      refine start_ (n := 8) (S := fun w' => (convert 22 9 (.slice A0 32 c0)).run Try.prog w' = .ok (.string s0) w') (ds := []) #[false, false, false, false, false, false, false, false] (by kernel_rfl) rfl rfl (CV.out _ (below_drew HB.out)) (fun hHeld => ?_)
      refine pure_ (i := 0) (N := some 6) (v := ?_) (a' := ?_) #[true, false, false, false, false, false, false, false] rfl rfl (by kernel_rfl) (fun _ _ _ h => h) (Or.inl ⟨by rfl, ?_⟩) ?_ ?_
      rotate_left
      · intro w'
        go_simp
        with_reducible rfl
      rotate_left
      · simp only [Act.put, List.setIfInBounds_toArray, List.set_cons_zero, List.set_cons_succ, i64_w, i32_w]
        rfl
      refine pure_ (i := 4) (N := some 10) (v := ?_) (a' := ?_) #[true, false, false, false, true, false, false, false] rfl rfl (by kernel_rfl) (fun _ _ _ h => h) (Or.inl ⟨by rfl, ?_⟩) ?_ ?_
      rotate_left
      · intro w'
        go_simp
        with_reducible rfl
      rotate_left
      · simp only [Act.put, List.setIfInBounds_toArray, List.set_cons_zero, List.set_cons_succ, i64_w, i32_w]
        rfl
      refine take_ (i := 5) (N := some 11) (v := ?_) (a' := ?_) #[true, false, false, false, true, true, false, false] rfl rfl (by kernel_rfl) (fun _ _ _ h => h) (Or.inl ⟨by rfl, ?_⟩) hHeld ?_ ?_
      rotate_left
      · intro w' s0
        go_simp
        with_reducible rfl
      rotate_left
      · simp only [Act.put, List.setIfInBounds_toArray, List.set_cons_zero, List.set_cons_succ, i64_w, i32_w]
        rfl
      refine one_ (i := 1) (N := some 7) #[true, true, false, false, true, true, false, false] rfl rfl (by kernel_rfl) (by decide) (fun K hK => ?_)
      refine goes_ Try.func48 (by kernel_rfl) rfl #[.slice A0 32 c0] (by rfl) rfl rfl (by simp only [List.map_toArray, List.map_cons, List.map_nil]; rfl) ?_
      with_reducible refine (HC1.out _ (below_drew HB.out)).mono ?_
      rintro e w3 ⟨rfl, hb⟩
      refine ⟨_, rfl, ?_⟩
      have B1 := Aside0.mk (below_step (below_drew HB.out) hb)
      clear hb
      refine hK.out _ _ (CV.out _ B1.out) (fun hHeld => ?_)
      clear hK K
      refine norm_ (a' := ?_) ?_ ?_
      rotate_left
      · show Act.put _ (some 7) _ = _
        simp only [Act.put, List.setIfInBounds_toArray, List.set_cons_zero, List.set_cons_succ, i64_w, i32_w]
        rfl
      refine one_ (i := 2) (N := some 8) #[true, true, true, false, true, true, false, false] rfl rfl (by kernel_rfl) (by decide) (fun K hK => ?_)
      refine goes_ Try.func46 (by kernel_rfl) rfl #[.agg (arr .i64 (fe x))] (by rfl) rfl rfl (by simp only [List.map_toArray, List.map_cons, List.map_nil]; rfl) ?_
      with_reducible refine (HC2.out _).mono ?_
      rintro e w4 ⟨v, rfl, ho, hb⟩
      refine ⟨_, rfl, ?_⟩
      have B2 := Aside0.mk (below_step B1.out hb)
      obtain ⟨A5, c5, e5⟩ := Kd.R_slice ho
      rw [limbs_length] at e5
      subst e5
      have hcv := conv_C 22 9 5 Try.underlying22 Try.underlying5 Try.underlying9 w4 A5 c5 (limbs 256 32 (x % PP)) (Kd.R_reads' ho).2.2 (by rw [limbs_length]; omega)
      rw [limbs_length] at hcv
      clear ho hb
      refine hK.out _ _ (CV.out _ B2.out) (fun hHeld => ?_)
      clear hK K
      refine norm_ (a' := ?_) ?_ ?_
      rotate_left
      · show Act.put _ (some 8) _ = _
        simp only [Act.put, List.setIfInBounds_toArray, List.set_cons_zero, List.set_cons_succ, i64_w, i32_w]
        rfl
      refine one_ (i := 3) (N := some 9) #[true, true, true, true, true, true, false, false] rfl rfl (by kernel_rfl) (by decide) (fun K hK => ?_)
      refine value_ (w1 := ?_) (v := ?_) (by rfl) rfl ?_ ?_
      rotate_left 2
      · go_simp
        constructor
        · rfl
        · rfl
      refine hK.out _ _ (CV.out _ B2.out) (fun hHeld => ?_)
      clear hK K
      refine norm_ (a' := ?_) ?_ ?_
      rotate_left
      · show Act.put _ (some 9) _ = _
        simp only [Act.put, List.setIfInBounds_toArray, List.set_cons_zero, List.set_cons_succ, i64_w, i32_w]
        rfl
      refine pure_ (i := 6) (N := some 12) (v := ?_) (a' := ?_) #[true, true, true, true, true, true, true, false] rfl rfl (by kernel_rfl) (fun _ _ _ h => h) (Or.inl ⟨by rfl, ?_⟩) ?_ ?_
      rotate_left
      · intro w'
        go_simp
        with_reducible rfl
      rotate_left
      · simp only [Act.put, List.setIfInBounds_toArray, List.set_cons_zero, List.set_cons_succ, i64_w, i32_w]
        rfl
      refine pure_ (i := 7) (N := some 2) (v := ?_) (a' := ?_) #[true, true, true, true, true, true, true, true] rfl rfl (by kernel_rfl) (fun _ _ _ h => h) (Or.inl ⟨by rfl, ?_⟩) ?_ ?_
      rotate_left
      · intro w'
        go_simp
        with_reducible rfl
      rotate_left
      · simp only [Act.put, List.setIfInBounds_toArray, List.set_cons_zero, List.set_cons_succ, i64_w, i32_w]
        rfl
      refine done_ (by kernel_rfl) ?_

      go_wp2
      go_ret
      exact ⟨rfl, B2.out⟩
    · have e : isEl l0 = false := by unfold isEl; rw [decide_eq_false hl]; rfl
      rw [e]
      have hll : ¬ (l0.length : Int) = 32 := by omega
      go_enter Try.func40, Try.ntmps40
      go_wp2
      go_ret
      exact ⟨rfl, Below.refl _ _⟩
  · rw [if_neg ho] at h; cases h


/-! ### spec_l05Add: function 47 -/
set_option maxHeartbeats 400000 in
set_option maxRecDepth 100000 in
theorem spec_l05Add.calls (x y : Nat) (w : World) (hx : x < BB) (hy : y < BB) :
    Calls Try.prog 47 #[.agg (arr .i64 (fe x)), .agg (arr .i64 (fe y))] w fun e w' => ∃ c, c < BB ∧ c % PP = (x + y) % PP ∧ e = .returned (.agg (arr .i64 (fe c))) ∧ Below w.heap.size w w' := by
  obtain ⟨c, hc1, hc2, hc3⟩ := add_fe x y hx hy
  have HC := Aside0.mk (fun W => spec_l05Carry.calls (addS (fe x) (fe y) 16) W (addS_bd x y 16) (by rw [addS_length, fe_length]))
  rw [hc2] at HC
  refine Calls.mono (R := fun e w' => e = .returned (.agg (arr .i64 (fe c))) ∧ Below w.heap.size w w') ?_ (fun e w' h => ⟨c, hc1, hc3, h⟩)
  clear hc1 hc2 hc3 hx hy
  have HE := Aside0.mk (fun k => addS_rest (fe x) (fe y) k k (Nat.le_refl k))
  have RX := Aside0.mk (fe_getD x)
  have RY := Aside0.mk (fe_getD y)
  have LS := Aside0.mk (fun k => (addS_length (fe x) (fe y) k).trans (fe_length x))
  have LX := Aside0.mk (fe_length x)
  have LY := Aside0.mk (fe_length y)
  have HS := Aside0.mk (fun k => show addS (fe x) (fe y) (k + 1) = (addS (fe x) (fe y) k).set k ((addS (fe x) (fe y) k).getD k 0 + (fe y).getD k 0) from rfl)
  have H0 := Aside0.mk (show addS (fe x) (fe y) 0 = fe x from rfl)
  generalize addS (fe x) (fe y) = A at *
  generalize fe x = xs at *
  generalize fe y = ys at *
  generalize hf : fe c = zs at *
  have LZ := Aside0.mk (hf ▸ fe_length c)
  clear hf
  go_enter Try.func47, Try.ntmps47
  go_wp2
  go_loopg [5] 16 (fun gg v5 wr => ∃ k : Nat, k ≤ 16 ∧ 16 - k ≤ gg ∧ v5 = .int .i64 k ∧ Aside0 (St w [⟨40, .i64, A k⟩, ⟨40, .i64, ys⟩, ⟨40, .i64, z16⟩] wr))
  case atStart =>
    refine ⟨0, by omega, by omega, rfl, ?_⟩
    rw [H0.out]
    exact ⟨(((St.start w).push rfl 40 .i64 xs).push (World.size_alloc ..) 40 .i64 ys).push (by rw [World.size_alloc, World.size_alloc]; rfl) 40 .i64 z16⟩
  case round =>
    obtain ⟨k, hk, hg, rfl, S⟩ := hrel
    by_cases hlt : k < 16
    · have hlti : (k : Int) < 16 := by omega
      have hc1 := S.out.cell 0 rfl k (by rw [LS.out]; omega)
      have hf1 := blk_frozen (S.out.blk 0 rfl) k
      rw [Nat.add_zero] at hc1 hf1
      have hc2 := S.out.cell 1 rfl k (by rw [LY.out]; omega)
      have a := RX.out k
      have b := RY.out k
      have a1 := a.1
      have a2 := a.2
      have b1 := b.1
      have b2 := b.2
      rw [HE.out k] at hc1
      have P := Aside0.mk ((S.out.set 0 rfl k (xs.getD k 0 + ys.getD k 0)).drew)
      have EQ := Aside0.mk ((HS.out k).trans (by rw [HE.out k]))
      clear a b
      generalize xs.getD k 0 = a at *
      generalize ys.getD k 0 = b at *
      go_wp2
      go_region
      go_wp2
      go_roundg (16 - (k + 1))
      case measure => omega
      case rel => exact ⟨k + 1, by omega, by omega, by go_num, by rw [EQ.out]; exact P⟩
    · have hk16 : k = 16 := by omega
      subst hk16
      have hneg : ¬ ((16 : Nat) : Int) < 16 := by omega
      go_wp2_with (first
        | ((with_reducible refine gate_dst (N := 18) rfl ?_); refine ld_arr rfl 40 (.tmp 2) rfl w.heap.size rfl (S.out.blk 0 rfl) Try.underlying40 (m := 16) (by kernel_rfl) (LS.out _) ?_)
        | ((with_reducible refine (HC.out _).mono ?_); rintro e w1 ⟨rfl, hb⟩; have S1 := Aside0.mk (S.out.step hb); clear hb)
        | (refine st_arr rfl 40 (.tmp 4) (.tmp 19) rfl (w.heap.size + 2) (xs := zs) rfl rfl (S1.out.blk 2 rfl) (m := 16) (by kernel_rfl) LZ.out (by rw [LZ.out]; rfl) ?_; intro w' h1 h2 h4 h3; have H1 := Aside0.mk h1; have S2 := Aside0.mk (S1.out.row 2 rfl h1 h2 h3); clear h1 h2 h3 h4))
      exact bodyPost_ret (results_cell_row Try.results47 _ _ (w.heap.size + 2) 40 _ (0, 0) _ rfl H1.out Try.underlying40 rfl (by rw [arr_size, LZ.out]; kernel_rfl)) rfl ⟨rfl, S2.out.below⟩


/-! ### spec_l05Sub: function 53 -/
set_option maxHeartbeats 400000 in
set_option maxRecDepth 100000 in
theorem spec_l05Sub.calls (x y : Nat) (w : World) (hx : x < BB) (hy : y < BB) :
    Calls Try.prog 53 #[.agg (arr .i64 (fe x)), .agg (arr .i64 (fe y))] w fun e w' => ∃ c, c < BB ∧ (c + y) % PP = x % PP ∧ e = .returned (.agg (arr .i64 (fe c))) ∧ Below w.heap.size w w' := by
  obtain ⟨hbd, c, hc1, hc2, hc3⟩ := sub_fe x y hx hy
  have HC := Aside0.mk (fun W => spec_l05Carry.calls (subT x y) W hbd (subT_length x y))
  rw [hc2] at HC
  refine Calls.mono (R := fun e w' => e = .returned (.agg (arr .i64 (fe c))) ∧ Below w.heap.size w w') ?_ (fun e w' h => ⟨c, hc1, hc3, h⟩)
  clear hc1 hc2 hc3 hx hy hbd
  have BS := Aside0.mk ((subS_bs x y 16) 0)
  have HT := Aside0.mk (show subT x y = (subS (fe x) (fe y) 16).set 0 ((subS (fe x) (fe y) 16).getD 0 0 - 37) from rfl)
  have LT := Aside0.mk (subT_length x y)
  generalize subT x y = ts at *
  have HE := Aside0.mk (fun k => subS_rest (fe x) (fe y) k k (Nat.le_refl k))
  have RX := Aside0.mk (fe_getD x)
  have RY := Aside0.mk (fe_getD y)
  have LS := Aside0.mk (fun k => (subS_length (fe x) (fe y) k).trans (fe_length x))
  have LX := Aside0.mk (fe_length x)
  have LY := Aside0.mk (fe_length y)
  have HS := Aside0.mk (fun k => show subS (fe x) (fe y) (k + 1) = (subS (fe x) (fe y) k).set k ((subS (fe x) (fe y) k).getD k 0 + (65535 - (fe y).getD k 0)) from rfl)
  have H0 := Aside0.mk (show subS (fe x) (fe y) 0 = fe x from rfl)
  generalize subS (fe x) (fe y) = A at *
  generalize fe x = xs at *
  generalize fe y = ys at *
  generalize hf : fe c = zs at *
  have LZ := Aside0.mk (hf ▸ fe_length c)
  clear hf
  go_enter Try.func53, Try.ntmps53
  go_wp2
  go_loopg [5] 16 (fun gg v5 wr => ∃ k : Nat, k ≤ 16 ∧ 16 - k ≤ gg ∧ v5 = .int .i64 k ∧ Aside0 (St w [⟨40, .i64, A k⟩, ⟨40, .i64, ys⟩, ⟨40, .i64, z16⟩] wr))
  case atStart =>
    refine ⟨0, by omega, by omega, rfl, ?_⟩
    rw [H0.out]
    exact ⟨(((St.start w).push rfl 40 .i64 xs).push (World.size_alloc ..) 40 .i64 ys).push (by rw [World.size_alloc, World.size_alloc]; rfl) 40 .i64 z16⟩
  case round =>
    obtain ⟨k, hk, hg, rfl, S⟩ := hrel
    by_cases hlt : k < 16
    · have hlti : (k : Int) < 16 := by omega
      have hc1 := S.out.cell 0 rfl k (by rw [LS.out]; omega)
      have hf1 := blk_frozen (S.out.blk 0 rfl) k
      rw [Nat.add_zero] at hc1 hf1
      have hc2 := S.out.cell 1 rfl k (by rw [LY.out]; omega)
      have a := RX.out k
      have b := RY.out k
      have a1 := a.1
      have a2 := a.2
      have b1 := b.1
      have b2 := b.2
      rw [HE.out k] at hc1
      have P := Aside0.mk ((S.out.set 0 rfl k (xs.getD k 0 + (65535 - ys.getD k 0))).drew)
      have EQ := Aside0.mk ((HS.out k).trans (by rw [HE.out k]))
      clear a b
      generalize xs.getD k 0 = a at *
      generalize ys.getD k 0 = b at *
      go_wp2
      go_region
      go_wp2
      go_roundg (16 - (k + 1))
      case measure => omega
      case rel => exact ⟨k + 1, by omega, by omega, by go_num, by rw [EQ.out]; exact P⟩
    · have hk16 : k = 16 := by omega
      subst hk16
      have hneg : ¬ ((16 : Nat) : Int) < 16 := by omega
      have hb0 := BS.out
      have hb1 := hb0.1
      have hb2 := hb0.2
      have hc1 := S.out.cell 0 rfl 0 (by rw [LS.out]; omega)
      have hf1 := blk_frozen (S.out.blk 0 rfl) 0
      rw [Nat.add_zero] at hc1 hf1
      have S0 := Aside0.mk (S.out.set 0 rfl 0 ((A 16).getD 0 0 - 37))
      rw [← HT.out] at S0
      clear hb0
      generalize (A 16).getD 0 0 = a at *
      go_wp2_with (first
        | ((with_reducible refine gate_dst (N := 23) rfl ?_); refine ld_arr rfl 40 (.tmp 2) rfl w.heap.size rfl (S0.out.blk 0 rfl) Try.underlying40 (m := 16) (by kernel_rfl) LT.out ?_)
        | ((with_reducible refine (HC.out _).mono ?_); rintro e w1 ⟨rfl, hb⟩; have S1 := Aside0.mk (S0.out.step hb); clear hb)
        | (refine st_arr rfl 40 (.tmp 4) (.tmp 24) rfl (w.heap.size + 2) (xs := zs) rfl rfl (S1.out.blk 2 rfl) (m := 16) (by kernel_rfl) LZ.out (by rw [LZ.out]; rfl) ?_; intro w' h1 h2 h4 h3; have H1 := Aside0.mk h1; have S2 := Aside0.mk (S1.out.row 2 rfl h1 h2 h3); clear h1 h2 h3 h4))
      exact bodyPost_ret (results_cell_row Try.results53 _ _ (w.heap.size + 2) 40 _ (0, 0) _ rfl H1.out Try.underlying40 rfl (by rw [arr_size, LZ.out]; kernel_rfl)) rfl ⟨rfl, S2.out.below⟩


/-! ### spec_l05Mul: function 64 -/
set_option maxHeartbeats 1000000 in
set_option maxRecDepth 100000 in
theorem spec_l05Mul.calls (x y : Nat) (w : World) (hx : x < BB) (hy : y < BB) :
    Calls Try.prog 64 #[.agg (arr .i64 (fe x)), .agg (arr .i64 (fe y))] w fun e w' => ∃ c, c < BB ∧ c % PP = x * y % PP ∧ e = .returned (.agg (arr .i64 (fe c))) ∧ Below w.heap.size w w' := by
  obtain ⟨hbd, c, hc1, hc2, hc3⟩ := mul_fe x y hx hy
  have HC := Aside0.mk (fun W => spec_l05Carry.calls (mulT x y) W hbd (by unfold mulT; exact fldS_length _ _))
  rw [hc2] at HC
  refine Calls.mono (R := fun e w' => e = .returned (.agg (arr .i64 (fe c))) ∧ Below w.heap.size w w') ?_ (fun e w' h => ⟨c, hc1, hc3, h⟩)
  clear hc1 hc2 hc3 hx hy hbd
  have RX := Aside0.mk (fe_getD x)
  have RY := Aside0.mk (fe_getD y)
  have LX := Aside0.mk (fe_length x)
  have LY := Aside0.mk (fe_length y)
  have NW := Aside0.mk (mulW_nb x y)
  have NR := Aside0.mk (fun i k => mulR_nb x y i (mulW (fe x) (fe y) i) _ (mulW_nb x y i) k)
  have LW := Aside0.mk (mulW_length (fe x) (fe y))
  have LR := Aside0.mk (fun i k => (mulR_length (fe x) (fe y) (mulW (fe x) (fe y) i) i k).trans (mulW_length _ _ i))
  have SW := Aside0.mk (fun i => show mulW (fe x) (fe y) (i + 1) = mulR (fe x) (fe y) i (mulW (fe x) (fe y) i) 16 from by simp only [mulW])
  have SR := Aside0.mk (fun i k => show mulR (fe x) (fe y) i (mulW (fe x) (fe y) i) (k + 1) = (mulR (fe x) (fe y) i (mulW (fe x) (fe y) i) k).set (i + k) ((mulR (fe x) (fe y) i (mulW (fe x) (fe y) i) k).getD (i + k) 0 + (fe x).getD i 0 * (fe y).getD k 0) from rfl)
  have R0 := Aside0.mk (fun i => show mulR (fe x) (fe y) i (mulW (fe x) (fe y) i) 0 = mulW (fe x) (fe y) i from rfl)
  have W0 := Aside0.mk (show mulW (fe x) (fe y) 0 = List.replicate 32 0 from rfl)
  have HT := Aside0.mk (show mulT x y = fldS (mulW (fe x) (fe y) 16) 16 from rfl)
  generalize mulT x y = ts at *
  generalize hR : (fun i k => mulR (fe x) (fe y) i (mulW (fe x) (fe y) i) k) = R at *
  have HR : ∀ i k, mulR (fe x) (fe y) i (mulW (fe x) (fe y) i) k = R i k := fun i k => by rw [← hR]
  simp only [HR] at NR LR SW SR R0
  generalize mulW (fe x) (fe y) = M at *
  clear HR hR
  generalize fe x = xs at *
  generalize fe y = ys at *
  generalize hf : fe c = zs at *
  have LZ := Aside0.mk (hf ▸ fe_length c)
  clear hf
  have S0 := Aside0.mk (((((St.start w).push rfl 40 .i64 xs).push (World.size_alloc ..) 40 .i64 ys).push (by rw [World.size_alloc, World.size_alloc]; rfl) 40 .i64 z16).push (by rw [World.size_alloc, World.size_alloc, World.size_alloc]; rfl) 80 .i64 (List.replicate 32 0))
  go_enter Try.func64, Try.ntmps64
  go_wp2_with (refine st_arr rfl 80 (.tmp 5) (.tmp 10) rfl (w.heap.size + 3) (k := .i64) (xs := List.replicate 32 0) rfl rfl (S0.out.blk 3 rfl) (m := 32) (by kernel_rfl) (List.length_replicate ..) rfl ?_; intro w0 h1 h2 h4 h3; have S1 := Aside0.mk (S0.out.row 3 rfl h1 h2 h3); clear h1 h2 h3 h4 S0)
  go_loopg [6, 7] 16 (fun gg v6 _ wr => ∃ i : Nat, i ≤ 16 ∧ 16 - i ≤ gg ∧ v6 = .int .i64 i ∧ Aside0 (St w [⟨40, .i64, xs⟩, ⟨40, .i64, ys⟩, ⟨40, .i64, z16⟩, ⟨80, .i64, M i⟩] wr))
  case atStart =>
    refine ⟨0, by omega, by omega, rfl, ?_⟩
    rw [W0.out]
    exact S1
  case round =>
    obtain ⟨i, hi, hg, rfl, S⟩ := hrel
    by_cases hlt : i < 16
    · have hlti : (i : Int) < 16 := by omega
      have a := RX.out i
      have a1 := a.1
      have a2 := a.2
      clear a
      go_wp2
      go_loopg [7] 16 (fun gg2 v7 wr2 => ∃ k : Nat, k ≤ 16 ∧ 16 - k ≤ gg2 ∧ v7 = .int .i64 k ∧ Aside0 (St w [⟨40, .i64, xs⟩, ⟨40, .i64, ys⟩, ⟨40, .i64, z16⟩, ⟨80, .i64, R i k⟩] wr2))
      case atStart => exact ⟨0, by omega, by omega, rfl, by rw [R0.out]; exact S⟩
      case round =>
        obtain ⟨k, hk, hg2, rfl, S2⟩ := hrel
        by_cases hlt2 : k < 16
        · have hlti2 : (k : Int) < 16 := by omega
          have hc1 := S2.out.cell 3 rfl (i + k) (by rw [LR.out]; omega)
          have hf1 := blk_frozen (S2.out.blk 3 rfl) (i + k)
          have hc2 := S2.out.cell 0 rfl i (by rw [LX.out]; omega)
          have hc3 := S2.out.cell 1 rfl k (by rw [LY.out]; omega)
          rw [Nat.add_zero] at hc2
          have b := RY.out k
          have m := NR.out i k (i + k)
          have P := Aside0.mk ((S2.out.set 3 rfl (i + k) ((R i k).getD (i + k) 0 + xs.getD i 0 * ys.getD k 0)).drew)
          have EQ := Aside0.mk (SR.out i k)
          have p := prod_le _ _ ⟨a1, a2⟩ b
          have p1 := p.1
          have p2 := p.2
          have m1 := m.1
          have m2 : (R i k).getD (i + k) 0 ≤ 1168197847040 := by have := m.2; omega
          clear b m p
          obtain ⟨j, hj⟩ : ∃ j : Nat, j = i + k := ⟨_, rfl⟩
          have hj1 : (i : Int) + (k : Int) = (j : Int) := by omega
          have hj2 : (j : Int) < 32 := by omega
          rw [← hj] at hc1 hf1 P EQ m1 m2
          generalize (R i k).getD j 0 = v at *
          generalize xs.getD i 0 = a at *
          generalize ys.getD k 0 = b at *
          generalize hab : a * b = ab at *
          clear hj
          go_wp2
          go_region
          go_wp2
          go_roundg (16 - (k + 1))
          case measure => omega
          case rel => exact ⟨k + 1, by omega, by omega, by go_num, by rw [EQ.out]; exact P⟩
        · have hk16 : k = 16 := by omega
          subst hk16
          have hneg : ¬ ((16 : Nat) : Int) < 16 := by omega
          go_wp2
          go_roundg (16 - (i + 1))
          case measure => omega
          case rel => exact ⟨i + 1, by omega, by omega, by go_num, by rw [SW.out]; exact S2⟩
    · have hi16 : i = 16 := by omega
      subst hi16
      have hneg : ¬ ((16 : Nat) : Int) < 16 := by omega
      obtain ⟨V0, e0⟩ : ∃ V0, V0 = wr := ⟨_, rfl⟩
      subst e0
      have SZ := Aside0.mk S.out.size
      have LM := Aside0.mk (LW.out 16)
      have NM := Aside0.mk (NW.out 16)
      generalize M 16 = W at *
      have LF := Aside0.mk (fun k => fldS_length W k)
      have SF := Aside0.mk (fun k => show fldS W (k + 1) = (fldS W k).set k (W.getD k 0 + 38 * W.getD (k + 16) 0) from rfl)
      have F0 := Aside0.mk (show fldS W 0 = List.replicate 16 0 from rfl)
      generalize fldS W = F at *
      go_wp2
      go_loopg [9] 16 (fun gg2 v9 wr2 => ∃ k : Nat, k ≤ 16 ∧ 16 - k ≤ gg2 ∧ v9 = .int .i64 k ∧ Aside0 (St w [⟨40, .i64, xs⟩, ⟨40, .i64, ys⟩, ⟨40, .i64, z16⟩, ⟨80, .i64, W⟩] wr2) ∧ Aside0 (wr2.heap[V0.heap.size]? = some (.cells (arr .i64 (F k)) 40 (0, 0))))
      case atStart =>
        refine ⟨0, by omega, by omega, rfl, ⟨S.out.alloc (.cells (arr .i64 z16) 40)⟩, ?_⟩
        rw [F0.out]
        exact ⟨blk_new V0 (.cells (arr .i64 z16) 40)⟩
      case round =>
        obtain ⟨k, hk, hg2, rfl, S2, G⟩ := hrel
        by_cases hlt2 : k < 16
        · have hlti2 : (k : Int) < 16 := by omega
          obtain ⟨j, hj⟩ : ∃ j : Nat, j = k + 16 := ⟨_, rfl⟩
          have hj1 : (k : Int) + 16 = (j : Int) := by omega
          have hj2 : (j : Int) < 32 := by omega
          have hk2 : (k : Int) < 32 := by omega
          have hc1 := S2.out.cell 3 rfl k (by rw [LM.out]; omega)
          have hc2 := S2.out.cell 3 rfl j (by rw [LM.out]; omega)
          have hc3 := blk_get G.out k (by rw [LF.out]; omega)
          have hf3 := blk_frozen G.out k
          have n1 := NM.out k
          have n2 := NM.out j
          have n3 := n1.1
          have n4 : W.getD k 0 ≤ 1099478073600 := by have := n1.2; omega
          have n5 := n2.1
          have n6 : W.getD j 0 ≤ 1099478073600 := by have := n2.2; omega
          have P := Aside0.mk ((S2.out.far V0.heap.size SZ.out k (.int .i64 (W.getD k 0 + 38 * W.getD j 0))).drew)
          have PG := Aside0.mk (blk_drew (blk_upd G.out k (W.getD k 0 + 38 * W.getD j 0)))
          have EQ := Aside0.mk (SF.out k)
          rw [← hj] at EQ
          clear n1 n2 hj
          generalize W.getD k 0 = a at *
          generalize W.getD j 0 = b at *
          go_wp2
          go_region
          go_wp2
          go_roundg (16 - (k + 1))
          case measure => omega
          case rel => exact ⟨k + 1, by omega, by omega, by go_num, P, by rw [EQ.out]; exact PG⟩
        · have hk16 : k = 16 := by omega
          subst hk16
          have hneg : ¬ ((16 : Nat) : Int) < 16 := by omega
          rw [← HT.out] at G
          have LT : Aside0 (ts.length = 16) := ⟨by rw [HT.out, LF.out]⟩
          go_wp2_with (first
            | ((with_reducible refine gate_dst (N := 49) rfl ?_); refine ld_arr rfl 40 (.tmp 8) rfl V0.heap.size rfl G.out Try.underlying40 (m := 16) (by kernel_rfl) LT.out ?_)
            | ((with_reducible refine (HC.out _).mono ?_); rintro e w1 ⟨rfl, hb⟩; have S3 := Aside0.mk (S2.out.step hb); clear hb)
            | (refine st_arr rfl 40 (.tmp 4) (.tmp 50) rfl (w.heap.size + 2) (xs := zs) rfl rfl (S3.out.blk 2 rfl) (m := 16) (by kernel_rfl) LZ.out (by rw [LZ.out]; rfl) ?_; intro w' h1 h2 h4 h3; have H1 := Aside0.mk h1; have S4 := Aside0.mk (S3.out.row 2 rfl h1 h2 h3); clear h1 h2 h3 h4))
          exact bodyPost_ret (results_cell_row Try.results64 _ _ (w.heap.size + 2) 40 _ (0, 0) _ rfl H1.out Try.underlying40 rfl (by rw [arr_size, LZ.out]; kernel_rfl)) rfl ⟨rfl, S4.out.below⟩


/-! ### spec_l05Same: function 93 -/
set_option maxHeartbeats 1000000 in
set_option maxRecDepth 100000 in
theorem spec_l05Same.calls (x y : Nat) (w : World) (hx : x < BB) (hy : y < BB) :
    Calls Try.prog 93 #[.agg (arr .i64 (fe x)), .agg (arr .i64 (fe y))] w fun e w' => e = .returned (.bool (decide (x % PP = y % PP))) ∧ Below w.heap.size w w' := by
  rw [same_str _ _ (Nat.mod_lt x PP_pos) (Nat.mod_lt y PP_pos)]
  have HX := Aside0.mk (fun W => bytes_fe x W hx)
  have HY := Aside0.mk (fun W => bytes_fe y W hy)
  clear hx hy
  generalize limbs 256 32 (x % PP) = la at *
  generalize limbs 256 32 (y % PP) = lb at *
  obtain ⟨s1, hs1⟩ : ∃ s1, s1 = strOfNums la := ⟨_, rfl⟩
  obtain ⟨s2, hs2⟩ : ∃ s2, s2 = strOfNums lb := ⟨_, rfl⟩
  rw [← hs1, ← hs2]
  have HS1 := Aside0.mk hs1
  have HS2 := Aside0.mk hs2
  clear hs1 hs2
  have S := Aside0.mk (((St.start w).push rfl 40 .i64 (fe x)).push (World.size_alloc ..) 40 .i64 (fe y))
  go_enter Try.func93, Try.ntmps93
  go_wp2
  refine abs_world (bs := [⟨40, .i64, fe x⟩, ⟨40, .i64, fe y⟩]) S.out ?_
  clear S
  intro W0 hS
  have T0 := Aside0.mk hS.drew
  clear hS
  refine start_ (n := 8) (S := fun w' => St w [⟨40, .i64, fe x⟩, ⟨40, .i64, fe y⟩] w') (ds := []) #[false, false, false, false, false, false, false, false] (by kernel_rfl) rfl rfl (T0.out) (fun hHeld => ?_)
  refine take_ (i := 0) (N := some 5) (v := ?_) (a' := ?_) #[true, false, false, false, false, false, false, false] rfl rfl (by kernel_rfl) (fun _ _ _ h => h) (Or.inl ⟨by rfl, ?_⟩) hHeld ?_ ?_
  rotate_left
  · intro w' s0
    refine (run_ld 40 (.tmp 2) (by rfl) w.heap.size (by rfl) (s0.blk 0 rfl) Try.underlying40 (m := 16) (by kernel_rfl) (fe_length _)).trans ?_; with_reducible rfl
  rotate_left
  · simp only [Act.put, OpenRow.s1, OpenRow.s2, OpenRow.s3, i64_w, i32_w]; rfl
  refine take_ (i := 3) (N := some 8) (v := ?_) (a' := ?_) #[true, false, false, true, false, false, false, false] rfl rfl (by kernel_rfl) (fun _ _ _ h => h) (Or.inl ⟨by rfl, ?_⟩) hHeld ?_ ?_
  rotate_left
  · intro w' s0
    refine (run_ld 40 (.tmp 3) (by rfl) (w.heap.size + 1) (by rfl) (s0.blk 1 rfl) Try.underlying40 (m := 16) (by kernel_rfl) (fe_length _)).trans ?_; with_reducible rfl
  rotate_left
  · simp only [Act.put, OpenRow.s1, OpenRow.s2, OpenRow.s3, i64_w, i32_w]; rfl
  refine one_ (i := 1) (N := some 6) #[true, true, false, true, false, false, false, false] rfl rfl (by kernel_rfl) (by decide) (fun K hK => ?_)
  refine goes_ Try.func46 (by kernel_rfl) rfl #[.agg (arr .i64 (fe x))] (by rfl) rfl rfl (by simp only [List.map_toArray, List.map_cons, List.map_nil] <;> rfl) ?_
  with_reducible refine (HX.out _).mono ?_
  rintro e w3 ⟨v1, rfl, hR, hb⟩
  refine ⟨_, rfl, ?_⟩
  have T := Aside0.mk (T0.out.step hb)
  have Ra := Aside0.mk hR
  clear hb hR
  refine hK.out _ _ (T.out) (fun hHeld => ?_)
  clear hK K
  refine norm_ (a' := ?_) ?_ ?_
  rotate_left
  · show Act.put _ (some 6) _ = _
    simp only [Act.put, OpenRow.s1, OpenRow.s2, OpenRow.s3, i64_w, i32_w]
    rfl
  refine join_ (σ := Value) 2 #[true, true, true, true, true, true, false, false] (fun s_ => [(7, .string s1), (9, s_), (10, .string s2)]) (fun s_ w' => (St w [⟨40, .i64, fe x⟩, ⟨40, .i64, fe y⟩] w')) ?_ ?_
  rotate_left
  · intro hCont
    refine two_ (i := 2) (j := 4) (Ni := some 7) (Nj := some 9) #[true, true, true, true, false, false, false, false] #[true, true, false, true, true, false, false, false] rfl rfl rfl rfl (by kernel_rfl) (by decide) (by decide) (fun K hK => ?_) (fun K hK => ?_)
    · skip
      have hcv := own_string (P := Try.prog) Try.underlying22 Try.underlying5 Try.underlying9 (Kd.own_of_R Ra.out)
      rw [← HS1.out] at hcv
      refine value_ (w1 := ?_) (v := ?_) (by rfl) rfl ?_ ?_
      rotate_left 2
      · go_simp
        constructor
        · rfl
        · rfl
      clear hcv
      have T_2 := T
      have Ra_2 := Ra
      refine hK.out _ _ (T_2.out) (fun hHeld => ?_)
      clear hK K
      refine norm_ (a' := ?_) ?_ ?_
      rotate_left
      · show Act.put _ (some 7) _ = _
        simp only [Act.put, OpenRow.s1, OpenRow.s2, OpenRow.s3, i64_w, i32_w]
        rfl
      refine one_ (i := 4) (N := some 9) #[true, true, true, true, true, false, false, false] rfl rfl (by kernel_rfl) (by decide) (fun K hK => ?_)
      refine goes_ Try.func46 (by kernel_rfl) rfl #[.agg (arr .i64 (fe y))] (by rfl) rfl rfl (by simp only [List.map_toArray, List.map_cons, List.map_nil] <;> rfl) ?_
      with_reducible refine (HY.out _).mono ?_
      rintro e w3 ⟨v2, rfl, hR, hb⟩
      refine ⟨_, rfl, ?_⟩
      have T_2_4 := Aside0.mk (T_2.out.step hb)
      have Ra_2_4 := Aside0.mk (Kd.R_below Ra_2.out hb)
      have Rb_2_4 := Aside0.mk hR
      clear hb hR
      refine hK.out _ _ (T_2_4.out) (fun hHeld => ?_)
      clear hK K
      refine norm_ (a' := ?_) ?_ ?_
      rotate_left
      · show Act.put _ (some 9) _ = _
        simp only [Act.put, OpenRow.s1, OpenRow.s2, OpenRow.s3, i64_w, i32_w]
        rfl
      refine one_ (i := 5) (N := some 10) #[true, true, true, true, true, true, false, false] rfl rfl (by kernel_rfl) (by decide) (fun K hK => ?_)
      have hcv := own_string (P := Try.prog) Try.underlying22 Try.underlying5 Try.underlying9 (Kd.own_of_R Rb_2_4.out)
      rw [← HS2.out] at hcv
      refine value_ (w1 := ?_) (v := ?_) (by rfl) rfl ?_ ?_
      rotate_left 2
      · go_simp
        constructor
        · rfl
        · rfl
      clear hcv
      have T_2_4_5 := T_2_4
      have Ra_2_4_5 := Ra_2_4
      have Rb_2_4_5 := Rb_2_4
      refine hK.out _ _ (T_2_4_5.out) (fun hHeld => ?_)
      clear hK K
      refine norm_ (a' := ?_) ?_ ?_
      rotate_left
      · show Act.put _ (some 10) _ = _
        simp only [Act.put, OpenRow.s1, OpenRow.s2, OpenRow.s3, i64_w, i32_w]
        rfl
      exact norm_ (by simp only [putAll, Act.put, List.setIfInBounds_toArray, List.set_cons_zero, List.set_cons_succ] <;> rfl) (hCont v2 _ T_2_4_5.out)
    · skip
      refine goes_ Try.func46 (by kernel_rfl) rfl #[.agg (arr .i64 (fe y))] (by rfl) rfl rfl (by simp only [List.map_toArray, List.map_cons, List.map_nil] <;> rfl) ?_
      with_reducible refine (HY.out _).mono ?_
      rintro e w3 ⟨v2, rfl, hR, hb⟩
      refine ⟨_, rfl, ?_⟩
      have T_4 := Aside0.mk (T.out.step hb)
      have Ra_4 := Aside0.mk (Kd.R_below Ra.out hb)
      have Rb_4 := Aside0.mk hR
      clear hb hR
      refine hK.out _ _ (T_4.out) (fun hHeld => ?_)
      clear hK K
      refine norm_ (a' := ?_) ?_ ?_
      rotate_left
      · show Act.put _ (some 9) _ = _
        simp only [Act.put, OpenRow.s1, OpenRow.s2, OpenRow.s3, i64_w, i32_w]
        rfl
      refine two_ (i := 2) (j := 5) (Ni := some 7) (Nj := some 10) #[true, true, true, true, true, false, false, false] #[true, true, false, true, true, true, false, false] rfl rfl rfl rfl (by kernel_rfl) (by decide) (by decide) (fun K hK => ?_) (fun K hK => ?_)
      · skip
        have hcv := own_string (P := Try.prog) Try.underlying22 Try.underlying5 Try.underlying9 (Kd.own_of_R Ra_4.out)
        rw [← HS1.out] at hcv
        refine value_ (w1 := ?_) (v := ?_) (by rfl) rfl ?_ ?_
        rotate_left 2
        · go_simp
          constructor
          · rfl
          · rfl
        clear hcv
        have T_4_2 := T_4
        have Ra_4_2 := Ra_4
        have Rb_4_2 := Rb_4
        refine hK.out _ _ (T_4_2.out) (fun hHeld => ?_)
        clear hK K
        refine norm_ (a' := ?_) ?_ ?_
        rotate_left
        · show Act.put _ (some 7) _ = _
          simp only [Act.put, OpenRow.s1, OpenRow.s2, OpenRow.s3, i64_w, i32_w]
          rfl
        refine one_ (i := 5) (N := some 10) #[true, true, true, true, true, true, false, false] rfl rfl (by kernel_rfl) (by decide) (fun K hK => ?_)
        have hcv := own_string (P := Try.prog) Try.underlying22 Try.underlying5 Try.underlying9 (Kd.own_of_R Rb_4_2.out)
        rw [← HS2.out] at hcv
        refine value_ (w1 := ?_) (v := ?_) (by rfl) rfl ?_ ?_
        rotate_left 2
        · go_simp
          constructor
          · rfl
          · rfl
        clear hcv
        have T_4_2_5 := T_4_2
        have Ra_4_2_5 := Ra_4_2
        have Rb_4_2_5 := Rb_4_2
        refine hK.out _ _ (T_4_2_5.out) (fun hHeld => ?_)
        clear hK K
        refine norm_ (a' := ?_) ?_ ?_
        rotate_left
        · show Act.put _ (some 10) _ = _
          simp only [Act.put, OpenRow.s1, OpenRow.s2, OpenRow.s3, i64_w, i32_w]
          rfl
        exact norm_ (by simp only [putAll, Act.put, List.setIfInBounds_toArray, List.set_cons_zero, List.set_cons_succ] <;> rfl) (hCont v2 _ T_4_2_5.out)
      · skip
        have hcv := own_string (P := Try.prog) Try.underlying22 Try.underlying5 Try.underlying9 (Kd.own_of_R Rb_4.out)
        rw [← HS2.out] at hcv
        refine value_ (w1 := ?_) (v := ?_) (by rfl) rfl ?_ ?_
        rotate_left 2
        · go_simp
          constructor
          · rfl
          · rfl
        clear hcv
        have T_4_5 := T_4
        have Ra_4_5 := Ra_4
        have Rb_4_5 := Rb_4
        refine hK.out _ _ (T_4_5.out) (fun hHeld => ?_)
        clear hK K
        refine norm_ (a' := ?_) ?_ ?_
        rotate_left
        · show Act.put _ (some 10) _ = _
          simp only [Act.put, OpenRow.s1, OpenRow.s2, OpenRow.s3, i64_w, i32_w]
          rfl
        refine one_ (i := 2) (N := some 7) #[true, true, true, true, true, true, false, false] rfl rfl (by kernel_rfl) (by decide) (fun K hK => ?_)
        have hcv := own_string (P := Try.prog) Try.underlying22 Try.underlying5 Try.underlying9 (Kd.own_of_R Ra_4_5.out)
        rw [← HS1.out] at hcv
        refine value_ (w1 := ?_) (v := ?_) (by rfl) rfl ?_ ?_
        rotate_left 2
        · go_simp
          constructor
          · rfl
          · rfl
        clear hcv
        have T_4_5_2 := T_4_5
        have Ra_4_5_2 := Ra_4_5
        have Rb_4_5_2 := Rb_4_5
        refine hK.out _ _ (T_4_5_2.out) (fun hHeld => ?_)
        clear hK K
        refine norm_ (a' := ?_) ?_ ?_
        rotate_left
        · show Act.put _ (some 7) _ = _
          simp only [Act.put, OpenRow.s1, OpenRow.s2, OpenRow.s3, i64_w, i32_w]
          rfl
        exact norm_ (by simp only [putAll, Act.put, List.setIfInBounds_toArray, List.set_cons_zero, List.set_cons_succ] <;> rfl) (hCont v2 _ T_4_5_2.out)
  rintro v2 w9 hHeld
  have T9 := Aside0.mk hHeld
  refine norm_ (a' := ?_) ?_ ?_
  rotate_left
  · simp only [putAll, Act.put, List.setIfInBounds_toArray, List.set_cons_zero, List.set_cons_succ]
    rfl
  refine pure_ (i := 6) (N := some 11) (v := ?_) (a' := ?_) #[true, true, true, true, true, true, true, false] rfl rfl (by kernel_rfl) (fun _ _ _ h => h) (Or.inl ⟨by rfl, ?_⟩) ?_ ?_
  rotate_left
  · intro w'; go_simp; with_reducible rfl
  rotate_left
  · simp only [Act.put, OpenRow.s1, OpenRow.s2, OpenRow.s3, i64_w, i32_w]; rfl
  refine pure_ (i := 7) (N := some 4) (v := ?_) (a' := ?_) #[true, true, true, true, true, true, true, true] rfl rfl (by kernel_rfl) (fun _ _ _ h => h) (Or.inl ⟨by rfl, ?_⟩) ?_ ?_
  rotate_left
  · intro w'; go_simp; with_reducible rfl
  rotate_left
  · simp only [Act.put, OpenRow.s1, OpenRow.s2, OpenRow.s3, i64_w, i32_w]; rfl
  refine done_ (by kernel_rfl) ?_

  go_wp2
  go_ret
  exact ⟨rfl, T9.out.below⟩


/-! ### spec_l05Zero: function 66 -/
set_option maxHeartbeats 1000000 in
set_option maxRecDepth 100000 in
theorem spec_l05Zero.calls (x : Nat) (w : World) (hx : x < BB) :
    Calls Try.prog 66 #[.agg (arr .i64 (fe x))] w fun e w' => e = .returned (.bool (decide (x % PP = 0))) ∧ Below w.heap.size w w' := by
  have HS := Aside0.mk (fun W => (show Calls Try.prog 93 #[.agg (arr .i64 (fe x)), .agg #[.int .i64 0, .int .i64 0, .int .i64 0, .int .i64 0, .int .i64 0, .int .i64 0, .int .i64 0, .int .i64 0, .int .i64 0, .int .i64 0, .int .i64 0, .int .i64 0, .int .i64 0, .int .i64 0, .int .i64 0, .int .i64 0]] W (fun e w' => e = .returned (.bool (decide (x % PP = 0))) ∧ Below W.heap.size W w') from by
    have h := spec_l05Same.calls x 0 W hx (by decide)
    rw [Nat.zero_mod, show fe 0 = [0, 0, 0, 0, 0, 0, 0, 0, 0, 0, 0, 0, 0, 0, 0, 0] from by decide] at h
    exact h))
  clear hx
  generalize decide (x % PP = 0) = r at *
  have S := Aside0.mk ((St.start w).push rfl 40 .i64 (fe x))
  go_enter Try.func66, Try.ntmps66
  go_wp2_with (first
    | ((with_reducible refine gate_dst (N := 3) rfl ?_); refine ld_arr rfl 40 (.tmp 1) rfl w.heap.size rfl (S.out.blk 0 rfl) Try.underlying40 (m := 16) (by kernel_rfl) (fe_length _) ?_)
    | ((refine (HS.out _).mono ?_); rintro e w1 ⟨rfl, hb⟩; have S1 := Aside0.mk (S.out.step hb); clear hb))
  go_ret
  exact ⟨rfl, S1.out.below⟩


/-! ### spec_l05Small: function 89 -/
theorem small_fe (n : Nat) (hn : n < 4294967296) : ((List.replicate 16 (0 : Int)).set 0 ((n % 65536 : Nat) : Int)).set 1 ((n / 65536 : Nat) : Int) = fe n := by
  refine eq_fe (xs := ((List.replicate 16 (0 : Int)).set 0 ((n % 65536 : Nat) : Int)).set 1 ((n / 65536 : Nat) : Int)) ?_ (by simp) n ?_
  · have h0 : Ok 65536 (List.replicate 16 (0 : Int)) := by
      intro x hx
      rw [List.eq_of_mem_replicate hx]; omega
    exact ok_set (ok_set h0 _ _ (by omega) (by omega)) _ _ (by omega) (by omega)
  · rw [BB_pow, Nat.mod_eq_of_lt (show n < BB by rw [BB_eq]; omega)]
    show lval 65536 [((n % 65536 : Nat) : Int), ((n / 65536 : Nat) : Int), 0, 0, 0, 0, 0, 0, 0, 0, 0, 0, 0, 0, 0, 0] = _
    simp only [lval]
    omega
set_option maxHeartbeats 1000000 in
set_option maxRecDepth 100000 in
theorem spec_l05Small.calls (n : Nat) (w : World) (hn : n < 4294967296) :
    Calls Try.prog 89 #[.int .i64 (n : Int)] w fun e w' => e = .returned (.agg (arr .i64 (fe n))) ∧ Below w.heap.size w w' := by
  have HF := Aside0.mk (small_fe n hn)
  have LF := Aside0.mk (fe_length n)
  obtain ⟨a, ha⟩ : ∃ a : Nat, a = n % 65536 := ⟨_, rfl⟩
  obtain ⟨b, hb⟩ : ∃ b : Nat, b = n / 65536 := ⟨_, rfl⟩
  rw [← ha, ← hb] at HF
  have n0 : (n : Int) % 65536 = (a : Int) := by omega
  have n1 : (n : Int).tmod 65536 = (a : Int) := by rw [Int.tmod_eq_emod_of_nonneg (by omega)]; omega
  have n2 : (n : Int) / 65536 = (b : Int) := by omega
  have n3 : (n : Int).tdiv 65536 = (b : Int) := by rw [Int.tdiv_eq_ediv_of_nonneg (by omega)]; omega
  have n4 : (n : Int) < 4294967296 := by omega
  have n5 : (b : Int) < 65536 := by omega
  generalize fe n = zs at *
  clear ha hb hn
  have S0 := Aside0.mk (((St.start w).push rfl 40 .i64 z16).push (World.size_alloc ..) 40 .i64 z16)
  go_enter Try.func89, Try.ntmps89
  go_wp2
  exact bodyPost_ret (results_cell_row Try.results89 _ _ w.heap.size 40 _ (0, 0) _ rfl (blk_alloc (blk_new w _) _) Try.underlying40 rfl (by kernel_rfl)) rfl ⟨by rw [← HF.out]; rfl, below_alloc (below_alloc (Below.refl _ _) _) _⟩


end Go.Proofs.Ytijeackkgcnbgaa.XO
