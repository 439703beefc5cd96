-- Written by a program of this session (xp.py over the kit's printer, with functions proved by hand). Lean checks it.
import Derived.Test.YtijeackkgcnbgaaXGx0
import Derived.Test.YtijeackkgcnbgaaXGx1
import Derived.Test.YtijeackkgcnbgaaXGx2
namespace Go.Proofs.Ytijeackkgcnbgaa.XG
open Go.Proofs.Ytijeackkgcnbgaa.Limb Go.Proofs.Ytijeackkgcnbgaa.Arr Go.Proofs.Ytijeackkgcnbgaa.FldA Go.Proofs.Ytijeackkgcnbgaa.FldB Go.Proofs.Ytijeackkgcnbgaa.FldC Go.Proofs.Ytijeackkgcnbgaa.FldS Go.Proofs.Ytijeackkgcnbgaa.FldP Go.Proofs.Ytijeackkgcnbgaa.FldW Go.Proofs.Ytijeackkgcnbgaa.FldM Go.Proofs.Ytijeackkgcnbgaa.FldT Go.Proofs.Ytijeackkgcnbgaa.St Go.Proofs.Ytijeackkgcnbgaa.StOps Go.Proofs.Ytijeackkgcnbgaa.StMid Go.Proofs.Ytijeackkgcnbgaa.StEq Go.Proofs.Ytijeackkgcnbgaa.StIdx Go.Proofs.Ytijeackkgcnbgaa.StSrc
open Go.RowKit Go.Proofs.YtijeackkgcnbgaaW.PrintWords Go.Proofs.YtijeackkgcnbgaaW.PrintLast Go.Proofs.YtijeackkgcnbgaaW.PrintMore
attribute [local go_sem] max2_int min2_int max_two min_two max_three min_three max_four min_four   -- for this text's walks alone
set_option linter.unusedVariables false
set_option linter.unusedSimpArgs false

/-! ### spec_l05Of: function 48 -/
set_option maxHeartbeats 400000 in
set_option maxRecDepth 100000 in
theorem spec_l05Of.calls (A0 : Option Addr) (c0 : Nat) (l0 : List Int) (w : World) (hr0 : Kd.C (Kd.int .u8) w A0 l0.length l0) (h32 : l0.length = 32) (hb : Ok 256 l0) :
    Calls Try.prog 48 #[.slice A0 l0.length c0] w fun e w' => e = .returned (.agg (arr .i64 (ofS l0 16))) ∧ Below w.heap.size w w' := by
  have HR := Aside0.mk hr0
  have H32 := Aside0.mk h32
  have OB := Aside0.mk hb
  clear hr0 hb h32
  go_enter Try.func48, Try.ntmps48
  go_wp2
  go_loopg [4] 16 (fun gg v4 wr => ∃ k : Nat, k ≤ 16 ∧ 16 - k ≤ gg ∧ v4 = .int .i64 k ∧ Aside0 (St w [⟨40, .i64, z16⟩, ⟨40, .i64, ofS l0 k⟩] wr))
  case atStart =>
    exact ⟨0, by omega, by omega, rfl, ⟨((St.start w).push rfl 40 .i64 z16).push (World.size_alloc ..) 40 .i64 z16⟩⟩
  case round =>
    obtain ⟨k, hk, hg, rfl, S⟩ := hrel
    by_cases hlt : k < 16
    · have hlti : (k : Int) < 16 := by omega
      have h32 := H32.out
      obtain ⟨ad, e1, hx⟩ := Kd.at_int (Kd.C_below HR.out S.out.below) (2 * (k : Int)) (by omega) (by omega)
      cases e1
      obtain ⟨ad, e1, hy⟩ := Kd.at_int (Kd.C_below HR.out S.out.below) (2 * (k : Int) + 1) (by omega) (by omega)
      cases e1
      have hc1 := S.out.cell 1 rfl k (by rw [ofS_length]; omega)
      have hf1 := blk_frozen (S.out.blk 1 rfl) k
      have c1 := getD_range OB.out (2 * k) (by omega)
      have c2 := getD_range OB.out (2 * k + 1) (by omega)
      have e1 : rd l0 (2 * (k : Int)) = l0.getD (2 * k) 0 := by rw [rd, show (2 * (k : Int)).toNat = 2 * k from by omega]
      have e2 : rd l0 (2 * (k : Int) + 1) = l0.getD (2 * k + 1) 0 := by rw [rd, show (2 * (k : Int) + 1).toNat = 2 * k + 1 from by omega]
      rw [e1, show (2 * (k : Int)).toNat = 2 * k from by omega] at hx
      rw [e2, show (2 * (k : Int) + 1).toNat = 2 * k + 1 from by omega] at hy
      have P := Aside0.mk ((S.out.set 1 rfl k (l0.getD (2 * k) 0 + 256 * l0.getD (2 * k + 1) 0)).drew)
      have EQ := Aside0.mk (show ofS l0 (k + 1) = (ofS l0 k).set k (l0.getD (2 * k) 0 + 256 * l0.getD (2 * k + 1) 0) from rfl)
      have hl : (2 * (k : Int) + 1) < (l0.length : Int) := by omega
      clear e1 e2
      generalize l0.getD (2 * k) 0 = x at *
      generalize l0.getD (2 * k + 1) 0 = y at *
      obtain ⟨i, hi⟩ : ∃ i : Nat, i = 2 * k := ⟨_, rfl⟩
      obtain ⟨j, hj⟩ : ∃ j : Nat, j = 2 * k + 1 := ⟨_, rfl⟩
      rw [← hi] at hx
      rw [← hj] at hy
      have i1 : 2 * (k : Int) = (i : Int) := by omega
      have j1 : (i : Int) + 1 = (j : Int) := by omega
      have j32 : (j : Int) < 32 := by omega
      have x0 := c1.1
      have x1 : x < 256 := c1.2
      have y0 := c2.1
      have y1 : y < 256 := c2.2
      clear hi hj hl c1 c2
      go_wp2
      go_region
      go_wp2
      go_roundg (16 - (k + 1))
      case measure => omega
      case rel => exact ⟨k + 1, by omega, by omega, by go_num, by rw [EQ.out]; exact P⟩
    · obtain rfl : k = 16 := by omega
      have hneg : ¬ ((16 : Nat) : Int) < 16 := by omega
      have B0 := Aside0.mk (S.out.blk 0 rfl)
      have B1 := Aside0.mk (S.out.blk 1 rfl)
      go_wp2_with (first
        | ((with_reducible refine gate_dst (N := 27) rfl ?_); refine ld_arr rfl 40 (.tmp 3) rfl (w.heap.size + 1) rfl B1.out Try.underlying40 (m := 16) (by kernel_rfl) (ofS_length _ _) ?_)
        | (refine st_arr rfl 40 (.tmp 2) (.tmp 27) rfl w.heap.size (xs := ofS l0 16) rfl rfl B0.out (m := 16) (by kernel_rfl) (ofS_length _ _) (by rw [ofS_length]; rfl) ?_; intro w' h1 h2 h4 h3; have H1 := Aside0.mk h1; have H3 := Aside0.mk h3; clear h1 h2 h3 h4))
      exact bodyPost_ret (results_cell_row Try.results48 _ _ w.heap.size 40 _ (0, 0) _ rfl H1.out Try.underlying40 rfl (by rw [arr_size, ofS_length]; kernel_rfl)) rfl ⟨rfl, H3.out _ _ S.out.below (Nat.le_refl _)⟩


/-! ### spec_l05Is: function 40 -/
def spec_l05Is.f (l0 : List Int) : Option (Bool) := if okB l0 then some (isEl l0) else none
set_option maxHeartbeats 400000 in
set_option maxRecDepth 100000 in
theorem spec_l05Is.calls (A0 : Option Addr) (c0 : Nat) (l0 : List Int) (r : Bool) (w : World) (hr0 : Kd.C (Kd.int .u8) w A0 l0.length l0) (hc0 : l0.length ≤ c0) (h : spec_l05Is.f l0 = some r) :
    Calls Try.prog 40 #[.slice A0 l0.length c0] w fun e w' => e = .returned (.bool r) ∧ Below w.heap.size w w' := by
  unfold spec_l05Is.f at h
  by_cases ho : okB l0 = true
  · rw [if_pos ho] at h
    obtain rfl := Option.some.inj h
    clear h
    by_cases hl : l0.length = 32
    · have ok := okB_ok l0 ho
      have hx := bval_lt32 l0 ok hl
      have e : isEl l0 = ((strOfNums (limbs 256 32 (bval l0 % PP))).toList == (strOfNums l0).toList) := by
        have e1 := limbs_lval 256 (by decide) l0 ok
        rw [hl] at e1
        unfold isEl
        rw [decide_eq_true hl, Bool.true_and]
        by_cases hp : bval l0 < PP
        · rw [Nat.mod_eq_of_lt hp, decide_eq_true hp, show limbs 256 32 (bval l0) = l0 from e1, beq_self_eq_true]
        · rw [decide_eq_false hp]
          symm
          rw [beq_eq_false_iff_ne]
          intro hs
          have e2 := str_inj (limbs_ok _ (by decide) _ _) ok hs
          have e3 := lval_limbs 256 (by decide) 32 (bval l0 % PP)
          rw [e2] at e3
          have e4 := bval_cast l0 ok
          have h5 := Nat.mod_lt (bval l0) (show 0 < PP by decide)
          have h6 : PP < 256 ^ 32 := by decide
          rw [Nat.mod_eq_of_lt (by omega)] at e3
          omega
      have CV := Aside0.mk (fun (W : World) (hb : Below w.heap.size w W) => conv_C (P := Try.prog) 22 9 5 Try.underlying22 Try.underlying5 Try.underlying9 W A0 c0 l0 (Kd.C_below hr0 hb) (by omega))
      have HC1 := Aside0.mk (fun (W : World) (hb : Below w.heap.size w W) => spec_l05Of.calls A0 c0 l0 W (Kd.C_below hr0 hb) hl ok)
      have HC2 := Aside0.mk (fun (W : World) => spec_l05Bytes.calls (fe (bval l0)) W (fe_bd _) (fe_length _) (by rw [lstN_fe _ hx]; exact fe_ok _))
      rw [bys_fe _ hx] at HC2
      rw [ofS_fe l0 ok hl, hl] at HC1
      rw [hl] at CV
      rw [hl, e]
      clear e hx ok ho hr0 hc0 hl
      have HB := Aside0.mk (Below.refl w.heap.size w)
      generalize strOfNums l0 = s0 at *
      generalize bval l0 = x at *
      go_enter Try.func40, Try.ntmps40
      go_wp2
      refine start_ (n := 8) (S := fun w' => (convert 22 9 (.slice A0 32 c0)).run Try.prog w' = .ok (.string s0) w') (ds := []) #[false, false, false, false, false, false, false, false] (by kernel_rfl) rfl rfl (CV.out _ (below_drew HB.out)) (fun hHeld => ?_)
      refine pure_ (i := 0) (N := some 6) (v := ?_) (a' := ?_) #[true, false, false, false, false, false, false, false] rfl rfl (by kernel_rfl) (fun _ _ _ h => h) (Or.inl ⟨by rfl, ?_⟩) ?_ ?_
      rotate_left
      · intro w'
        go_simp
        with_reducible rfl
      rotate_left
      · simp only [Act.put, List.setIfInBounds_toArray, List.set_cons_zero, List.set_cons_succ, i64_w, i32_w]
        rfl
      refine pure_ (i := 4) (N := some 10) (v := ?_) (a' := ?_) #[true, false, false, false, true, false, false, false] rfl rfl (by kernel_rfl) (fun _ _ _ h => h) (Or.inl ⟨by rfl, ?_⟩) ?_ ?_
      rotate_left
      · intro w'
        go_simp
        with_reducible rfl
      rotate_left
      · simp only [Act.put, List.setIfInBounds_toArray, List.set_cons_zero, List.set_cons_succ, i64_w, i32_w]
        rfl
      refine take_ (i := 5) (N := some 11) (v := ?_) (a' := ?_) #[true, false, false, false, true, true, false, false] rfl rfl (by kernel_rfl) (fun _ _ _ h => h) (Or.inl ⟨by rfl, ?_⟩) hHeld ?_ ?_
      rotate_left
      · intro w' s0
        go_simp
        with_reducible rfl
      rotate_left
      · simp only [Act.put, List.setIfInBounds_toArray, List.set_cons_zero, List.set_cons_succ, i64_w, i32_w]
        rfl
      refine one_ (i := 1) (N := some 7) #[true, true, false, false, true, true, false, false] rfl rfl (by kernel_rfl) (by decide) (fun K hK => ?_)
      refine goes_ Try.func48 (by kernel_rfl) rfl #[.slice A0 32 c0] (by rfl) rfl rfl (by simp only [List.map_toArray, List.map_cons, List.map_nil]; rfl) ?_
      with_reducible refine (HC1.out _ (below_drew HB.out)).mono ?_
      rintro e w3 ⟨rfl, hb⟩
      refine ⟨_, rfl, ?_⟩
      have B1 := Aside0.mk (below_step (below_drew HB.out) hb)
      clear hb
      refine hK.out _ _ (CV.out _ B1.out) (fun hHeld => ?_)
      clear hK K
      refine norm_ (a' := ?_) ?_ ?_
      rotate_left
      · show Act.put _ (some 7) _ = _
        simp only [Act.put, List.setIfInBounds_toArray, List.set_cons_zero, List.set_cons_succ, i64_w, i32_w]
        rfl
      refine one_ (i := 2) (N := some 8) #[true, true, true, false, true, true, false, false] rfl rfl (by kernel_rfl) (by decide) (fun K hK => ?_)
      refine goes_ Try.func46 (by kernel_rfl) rfl #[.agg (arr .i64 (fe x))] (by rfl) rfl rfl (by simp only [List.map_toArray, List.map_cons, List.map_nil]; rfl) ?_
      with_reducible refine (HC2.out _).mono ?_
      rintro e w4 ⟨v, rfl, ho, hb⟩
      refine ⟨_, rfl, ?_⟩
      have B2 := Aside0.mk (below_step B1.out hb)
      obtain ⟨A5, c5, e5⟩ := Kd.R_slice ho
      rw [limbs_length] at e5
      subst e5
      have hcv := conv_C 22 9 5 Try.underlying22 Try.underlying5 Try.underlying9 w4 A5 c5 (limbs 256 32 (x % PP)) (Kd.R_reads' ho).2.2 (by rw [limbs_length]; omega)
      rw [limbs_length] at hcv
      clear ho hb
      refine hK.out _ _ (CV.out _ B2.out) (fun hHeld => ?_)
      clear hK K
      refine norm_ (a' := ?_) ?_ ?_
      rotate_left
      · show Act.put _ (some 8) _ = _
        simp only [Act.put, List.setIfInBounds_toArray, List.set_cons_zero, List.set_cons_succ, i64_w, i32_w]
        rfl
      refine one_ (i := 3) (N := some 9) #[true, true, true, true, true, true, false, false] rfl rfl (by kernel_rfl) (by decide) (fun K hK => ?_)
      refine value_ (w1 := ?_) (v := ?_) (by rfl) rfl ?_ ?_
      rotate_left 2
      · go_simp
        constructor
        · rfl
        · rfl
      refine hK.out _ _ (CV.out _ B2.out) (fun hHeld => ?_)
      clear hK K
      refine norm_ (a' := ?_) ?_ ?_
      rotate_left
      · show Act.put _ (some 9) _ = _
        simp only [Act.put, List.setIfInBounds_toArray, List.set_cons_zero, List.set_cons_succ, i64_w, i32_w]
        rfl
      refine pure_ (i := 6) (N := some 12) (v := ?_) (a' := ?_) #[true, true, true, true, true, true, true, false] rfl rfl (by kernel_rfl) (fun _ _ _ h => h) (Or.inl ⟨by rfl, ?_⟩) ?_ ?_
      rotate_left
      · intro w'
        go_simp
        with_reducible rfl
      rotate_left
      · simp only [Act.put, List.setIfInBounds_toArray, List.set_cons_zero, List.set_cons_succ, i64_w, i32_w]
        rfl
      refine pure_ (i := 7) (N := some 2) (v := ?_) (a' := ?_) #[true, true, true, true, true, true, true, true] rfl rfl (by kernel_rfl) (fun _ _ _ h => h) (Or.inl ⟨by rfl, ?_⟩) ?_ ?_
      rotate_left
      · intro w'
        go_simp
        with_reducible rfl
      rotate_left
      · simp only [Act.put, List.setIfInBounds_toArray, List.set_cons_zero, List.set_cons_succ, i64_w, i32_w]
        rfl
      refine done_ (by kernel_rfl) ?_

      go_wp2
      go_ret
      exact ⟨rfl, B2.out⟩
    · have e : isEl l0 = false := by unfold isEl; rw [decide_eq_false hl]; rfl
      rw [e]
      have hll : ¬ (l0.length : Int) = 32 := by omega
      go_enter Try.func40, Try.ntmps40
      go_wp2
      go_ret
      exact ⟨rfl, Below.refl _ _⟩
  · rw [if_neg ho] at h; cases h


/-! ### spec_l05Mul: function 64 -/
set_option maxHeartbeats 1000000 in
set_option maxRecDepth 100000 in
theorem spec_l05Mul.calls (x y : Nat) (w : World) (hx : x < BB) (hy : y < BB) :
    Calls Try.prog 64 #[.agg (arr .i64 (fe x)), .agg (arr .i64 (fe y))] w fun e w' => ∃ c, c < BB ∧ c % PP = x * y % PP ∧ e = .returned (.agg (arr .i64 (fe c))) ∧ Below w.heap.size w w' := by
  obtain ⟨hbd, c, hc1, hc2, hc3⟩ := mul_fe x y hx hy
  have HC := Aside0.mk (fun W => spec_l05Carry.calls (mulT x y) W hbd (by unfold mulT; exact fldS_length _ _))
  rw [hc2] at HC
  refine Calls.mono (R := fun e w' => e = .returned (.agg (arr .i64 (fe c))) ∧ Below w.heap.size w w') ?_ (fun e w' h => ⟨c, hc1, hc3, h⟩)
  clear hc1 hc2 hc3 hx hy hbd
  have RX := Aside0.mk (fe_getD x)
  have RY := Aside0.mk (fe_getD y)
  have LX := Aside0.mk (fe_length x)
  have LY := Aside0.mk (fe_length y)
  have NW := Aside0.mk (mulW_nb x y)
  have NR := Aside0.mk (fun i k => mulR_nb x y i (mulW (fe x) (fe y) i) _ (mulW_nb x y i) k)
  have LW := Aside0.mk (mulW_length (fe x) (fe y))
  have LR := Aside0.mk (fun i k => (mulR_length (fe x) (fe y) (mulW (fe x) (fe y) i) i k).trans (mulW_length _ _ i))
  have SW := Aside0.mk (fun i => show mulW (fe x) (fe y) (i + 1) = mulR (fe x) (fe y) i (mulW (fe x) (fe y) i) 16 from by simp only [mulW])
  have SR := Aside0.mk (fun i k => show mulR (fe x) (fe y) i (mulW (fe x) (fe y) i) (k + 1) = (mulR (fe x) (fe y) i (mulW (fe x) (fe y) i) k).set (i + k) ((mulR (fe x) (fe y) i (mulW (fe x) (fe y) i) k).getD (i + k) 0 + (fe x).getD i 0 * (fe y).getD k 0) from rfl)
  have R0 := Aside0.mk (fun i => show mulR (fe x) (fe y) i (mulW (fe x) (fe y) i) 0 = mulW (fe x) (fe y) i from rfl)
  have W0 := Aside0.mk (show mulW (fe x) (fe y) 0 = List.replicate 32 0 from rfl)
  have HT := Aside0.mk (show mulT x y = fldS (mulW (fe x) (fe y) 16) 16 from rfl)
  generalize mulT x y = ts at *
  generalize hR : (fun i k => mulR (fe x) (fe y) i (mulW (fe x) (fe y) i) k) = R at *
  have HR : ∀ i k, mulR (fe x) (fe y) i (mulW (fe x) (fe y) i) k = R i k := fun i k => by rw [← hR]
  simp only [HR] at NR LR SW SR R0
  generalize mulW (fe x) (fe y) = M at *
  clear HR hR
  generalize fe x = xs at *
  generalize fe y = ys at *
  generalize hf : fe c = zs at *
  have LZ := Aside0.mk (hf ▸ fe_length c)
  clear hf
  have S0 := Aside0.mk (((((St.start w).push rfl 40 .i64 xs).push (World.size_alloc ..) 40 .i64 ys).push (by rw [World.size_alloc, World.size_alloc]; rfl) 40 .i64 z16).push (by rw [World.size_alloc, World.size_alloc, World.size_alloc]; rfl) 80 .i64 (List.replicate 32 0))
  go_enter Try.func64, Try.ntmps64
  go_wp2_with (refine st_arr rfl 80 (.tmp 5) (.tmp 10) rfl (w.heap.size + 3) (k := .i64) (xs := List.replicate 32 0) rfl rfl (S0.out.blk 3 rfl) (m := 32) (by kernel_rfl) (List.length_replicate ..) rfl ?_; intro w0 h1 h2 h4 h3; have S1 := Aside0.mk (S0.out.row 3 rfl h1 h2 h3); clear h1 h2 h3 h4 S0)
  go_loopg [6, 7] 16 (fun gg v6 _ wr => ∃ i : Nat, i ≤ 16 ∧ 16 - i ≤ gg ∧ v6 = .int .i64 i ∧ Aside0 (St w [⟨40, .i64, xs⟩, ⟨40, .i64, ys⟩, ⟨40, .i64, z16⟩, ⟨80, .i64, M i⟩] wr))
  case atStart =>
    refine ⟨0, by omega, by omega, rfl, ?_⟩
    rw [W0.out]
    exact S1
  case round =>
    obtain ⟨i, hi, hg, rfl, S⟩ := hrel
    by_cases hlt : i < 16
    · have hlti : (i : Int) < 16 := by omega
      have a := RX.out i
      have a1 := a.1
      have a2 := a.2
      clear a
      go_wp2
      go_loopg [7] 16 (fun gg2 v7 wr2 => ∃ k : Nat, k ≤ 16 ∧ 16 - k ≤ gg2 ∧ v7 = .int .i64 k ∧ Aside0 (St w [⟨40, .i64, xs⟩, ⟨40, .i64, ys⟩, ⟨40, .i64, z16⟩, ⟨80, .i64, R i k⟩] wr2))
      case atStart => exact ⟨0, by omega, by omega, rfl, by rw [R0.out]; exact S⟩
      case round =>
        obtain ⟨k, hk, hg2, rfl, S2⟩ := hrel
        by_cases hlt2 : k < 16
        · have hlti2 : (k : Int) < 16 := by omega
          have hc1 := S2.out.cell 3 rfl (i + k) (by rw [LR.out]; omega)
          have hf1 := blk_frozen (S2.out.blk 3 rfl) (i + k)
          have hc2 := S2.out.cell 0 rfl i (by rw [LX.out]; omega)
          have hc3 := S2.out.cell 1 rfl k (by rw [LY.out]; omega)
          rw [Nat.add_zero] at hc2
          have b := RY.out k
          have m := NR.out i k (i + k)
          have P := Aside0.mk ((S2.out.set 3 rfl (i + k) ((R i k).getD (i + k) 0 + xs.getD i 0 * ys.getD k 0)).drew)
          have EQ := Aside0.mk (SR.out i k)
          have p := prod_le _ _ ⟨a1, a2⟩ b
          have p1 := p.1
          have p2 := p.2
          have m1 := m.1
          have m2 : (R i k).getD (i + k) 0 ≤ 1168197847040 := by have := m.2; omega
          clear b m p
          obtain ⟨j, hj⟩ : ∃ j : Nat, j = i + k := ⟨_, rfl⟩
          have hj1 : (i : Int) + (k : Int) = (j : Int) := by omega
          have hj2 : (j : Int) < 32 := by omega
          rw [← hj] at hc1 hf1 P EQ m1 m2
          generalize (R i k).getD j 0 = v at *
          generalize xs.getD i 0 = a at *
          generalize ys.getD k 0 = b at *
          generalize hab : a * b = ab at *
          clear hj
          go_wp2
          go_region
          go_wp2
          go_roundg (16 - (k + 1))
          case measure => omega
          case rel => exact ⟨k + 1, by omega, by omega, by go_num, by rw [EQ.out]; exact P⟩
        · have hk16 : k = 16 := by omega
          subst hk16
          have hneg : ¬ ((16 : Nat) : Int) < 16 := by omega
          go_wp2
          go_roundg (16 - (i + 1))
          case measure => omega
          case rel => exact ⟨i + 1, by omega, by omega, by go_num, by rw [SW.out]; exact S2⟩
    · have hi16 : i = 16 := by omega
      subst hi16
      have hneg : ¬ ((16 : Nat) : Int) < 16 := by omega
      obtain ⟨V0, e0⟩ : ∃ V0, V0 = wr := ⟨_, rfl⟩
      subst e0
      have SZ := Aside0.mk S.out.size
      have LM := Aside0.mk (LW.out 16)
      have NM := Aside0.mk (NW.out 16)
      generalize M 16 = W at *
      have LF := Aside0.mk (fun k => fldS_length W k)
      have SF := Aside0.mk (fun k => show fldS W (k + 1) = (fldS W k).set k (W.getD k 0 + 38 * W.getD (k + 16) 0) from rfl)
      have F0 := Aside0.mk (show fldS W 0 = List.replicate 16 0 from rfl)
      generalize fldS W = F at *
      go_wp2
      go_loopg [9] 16 (fun gg2 v9 wr2 => ∃ k : Nat, k ≤ 16 ∧ 16 - k ≤ gg2 ∧ v9 = .int .i64 k ∧ Aside0 (St w [⟨40, .i64, xs⟩, ⟨40, .i64, ys⟩, ⟨40, .i64, z16⟩, ⟨80, .i64, W⟩] wr2) ∧ Aside0 (wr2.heap[V0.heap.size]? = some (.cells (arr .i64 (F k)) 40 (0, 0))))
      case atStart =>
        refine ⟨0, by omega, by omega, rfl, ⟨S.out.alloc (.cells (arr .i64 z16) 40)⟩, ?_⟩
        rw [F0.out]
        exact ⟨blk_new V0 (.cells (arr .i64 z16) 40)⟩
      case round =>
        obtain ⟨k, hk, hg2, rfl, S2, G⟩ := hrel
        by_cases hlt2 : k < 16
        · have hlti2 : (k : Int) < 16 := by omega
          obtain ⟨j, hj⟩ : ∃ j : Nat, j = k + 16 := ⟨_, rfl⟩
          have hj1 : (k : Int) + 16 = (j : Int) := by omega
          have hj2 : (j : Int) < 32 := by omega
          have hk2 : (k : Int) < 32 := by omega
          have hc1 := S2.out.cell 3 rfl k (by rw [LM.out]; omega)
          have hc2 := S2.out.cell 3 rfl j (by rw [LM.out]; omega)
          have hc3 := blk_get G.out k (by rw [LF.out]; omega)
          have hf3 := blk_frozen G.out k
          have n1 := NM.out k
          have n2 := NM.out j
          have n3 := n1.1
          have n4 : W.getD k 0 ≤ 1099478073600 := by have := n1.2; omega
          have n5 := n2.1
          have n6 : W.getD j 0 ≤ 1099478073600 := by have := n2.2; omega
          have P := Aside0.mk ((S2.out.far V0.heap.size SZ.out k (.int .i64 (W.getD k 0 + 38 * W.getD j 0))).drew)
          have PG := Aside0.mk (blk_drew (blk_upd G.out k (W.getD k 0 + 38 * W.getD j 0)))
          have EQ := Aside0.mk (SF.out k)
          rw [← hj] at EQ
          clear n1 n2 hj
          generalize W.getD k 0 = a at *
          generalize W.getD j 0 = b at *
          go_wp2
          go_region
          go_wp2
          go_roundg (16 - (k + 1))
          case measure => omega
          case rel => exact ⟨k + 1, by omega, by omega, by go_num, P, by rw [EQ.out]; exact PG⟩
        · have hk16 : k = 16 := by omega
          subst hk16
          have hneg : ¬ ((16 : Nat) : Int) < 16 := by omega
          rw [← HT.out] at G
          have LT : Aside0 (ts.length = 16) := ⟨by rw [HT.out, LF.out]⟩
          go_wp2_with (first
            | ((with_reducible refine gate_dst (N := 49) rfl ?_); refine ld_arr rfl 40 (.tmp 8) rfl V0.heap.size rfl G.out Try.underlying40 (m := 16) (by kernel_rfl) LT.out ?_)
            | ((with_reducible refine (HC.out _).mono ?_); rintro e w1 ⟨rfl, hb⟩; have S3 := Aside0.mk (S2.out.step hb); clear hb)
            | (refine st_arr rfl 40 (.tmp 4) (.tmp 50) rfl (w.heap.size + 2) (xs := zs) rfl rfl (S3.out.blk 2 rfl) (m := 16) (by kernel_rfl) LZ.out (by rw [LZ.out]; rfl) ?_; intro w' h1 h2 h4 h3; have H1 := Aside0.mk h1; have S4 := Aside0.mk (S3.out.row 2 rfl h1 h2 h3); clear h1 h2 h3 h4))
          exact bodyPost_ret (results_cell_row Try.results64 _ _ (w.heap.size + 2) 40 _ (0, 0) _ rfl H1.out Try.underlying40 rfl (by rw [arr_size, LZ.out]; kernel_rfl)) rfl ⟨rfl, S4.out.below⟩


/-! ### spec_FieldMul: function 31 -/
def spec_FieldMul.f (l0 : List Int) (l1 : List Int) : Option (List Int × Int) := if okE l0 && okE l1 then some (limbs 256 32 (bval l0 * bval l1 % PP), 0) else none
set_option maxHeartbeats 1000000 in
set_option maxRecDepth 100000 in
theorem spec_FieldMul.calls (A0 : Option Addr) (c0 : Nat) (l0 : List Int) (A1 : Option Addr) (c1 : Nat) (l1 : List Int) (r1 : List Int) (r2 : Int) (w : World) (hr0 : Kd.C (Kd.int .u8) w A0 l0.length l0) (hc0 : l0.length ≤ c0) (hr1 : Kd.C (Kd.int .u8) w A1 l1.length l1) (hc1 : l1.length ≤ c1) (h : spec_FieldMul.f l0 l1 = some (r1, r2)) :
    Calls Try.prog 31 #[.slice A0 l0.length c0, .slice A1 l1.length c1] w fun e w' => ∃ v0_ : Value, e = .returned (.tuple #[v0_, .int .i64 r2]) ∧ Kd.R (Kd.int .u8) 5 w' w.heap.size (fun _ => True) v0_ r1 ∧ Below w.heap.size w w' := by
  unfold spec_FieldMul.f at h
  by_cases ho : (okE l0 && okE l1) = true
  · rw [if_pos ho] at h
    simp only [Option.some.injEq, Prod.mk.injEq] at h
    obtain ⟨rfl, rfl⟩ := h
    rw [Bool.and_eq_true] at ho
    obtain ⟨o0, k0, e0, p0, i0⟩ := okE_facts ho.1
    obtain ⟨o1, k1, e1, p1, i1⟩ := okE_facts ho.2
    have hPB : PP < BB := by decide
    have HI0 := Aside0.mk (spec_l05Is.calls A0 c0 l0 true w hr0 hc0 (by unfold spec_l05Is.f; rw [if_pos o0, i0]))
    have HI1 := Aside0.mk (fun W (hb : Below w.heap.size w W) => spec_l05Is.calls A1 c1 l1 true W (Kd.C_below hr1 hb) hc1 (by unfold spec_l05Is.f; rw [if_pos o1, i1]))
    have HX := Aside0.mk (fun W (hb : Below w.heap.size w W) => spec_l05Of.calls A0 c0 l0 W (Kd.C_below hr0 hb) e0 k0)
    have HY := Aside0.mk (fun W (hb : Below w.heap.size w W) => spec_l05Of.calls A1 c1 l1 W (Kd.C_below hr1 hb) e1 k1)
    rw [ofS_fe l0 k0 e0] at HX
    rw [ofS_fe l1 k1 e1] at HY
    have HT := Aside0.mk (fun W => spec_l05Mul.calls (bval l0) (bval l1) W (Nat.lt_trans p0 hPB) (Nat.lt_trans p1 hPB))
    clear ho k0 k1 p0 p1 hPB hr0 hc0 hr1 hc1 e0 e1 o0 o1 i0 i1
    generalize bval l0 * bval l1 % PP = r at *
    generalize bval l0 = x at *
    generalize bval l1 = y at *
    have B0 := Aside0.mk (Below.refl w.heap.size w)
    go_enter Try.func31, Try.ntmps31
    go_wp2_with (first
      | ((with_reducible refine (HI0.out).mono ?_); rintro e w1 ⟨rfl, hb⟩; have B1 := Aside0.mk (below_step B0.out hb); clear hb)
      | ((with_reducible refine (HI1.out _ B1.out).mono ?_); rintro e w2 ⟨rfl, hb⟩; have B2 := Aside0.mk (below_step B1.out hb); clear hb)
      | ((with_reducible refine (HX.out _ B2.out).mono ?_); rintro e w3 ⟨rfl, hb⟩; have B3 := Aside0.mk (below_step B2.out hb); clear hb)
      | ((with_reducible refine (HY.out _ B3.out).mono ?_); rintro e w4 ⟨rfl, hb⟩; have B4 := Aside0.mk (below_step B3.out hb); clear hb)
      | ((with_reducible refine (HT.out _).mono ?_); rintro e w5 ⟨c, hc, hm, rfl, hb⟩; have B5 := Aside0.mk (below_step B4.out hb); clear hb)
      | ((with_reducible refine (bytes_fe c _ hc).mono ?_); rintro e w6 ⟨v, rfl, hR, hb⟩; rw [hm] at hR; have HR := Aside0.mk (Kd.R_lower hR (below_size B5.out)); have B6 := Aside0.mk (below_step B5.out hb); clear hb hR))
    go_ret2
    exact ⟨_, rfl, HR.out, B6.out⟩
  · rw [if_neg ho] at h; cases h


/-! ### bits_Mul64: function 106 -/
set_option maxHeartbeats 1000000 in
set_option maxRecDepth 100000 in
theorem mul64I.calls (x y : Int) (hx0 : 0 ≤ x) (hx : x < 18446744073709551616) (hy0 : 0 ≤ y) (hy : y < 18446744073709551616) (w : World) :
    Calls Try.prog 106 #[.int .u64 x, .int .u64 y] w fun e w' => e = .returned (.tuple #[.int .u64 (x * y / 18446744073709551616), .int .u64 (x * y % 18446744073709551616)]) ∧ w' = w := by
  have e := mul64_arith x y hx0 hx hy0 hy
  have A := and_low32 x hx0 hx
  have B := and_low32 y hy0 hy
  rw [← e]
  clear e
  have E := Aside0.mk A
  have F := Aside0.mk B
  clear A B
  go_enter Try.func106, Try.ntmps106
  go_wp2
  go_ret2
  refine ⟨?_, rfl⟩
  simp only [E.out, F.out, IntKind.wrap_u64]
  rw [and_low32 _ (by omega) (by omega)]
  rfl


/-! ### impl_number_times: function 88 -/
set_option maxHeartbeats 1000000 in
set_option maxRecDepth 100000 in
theorem impl_number_times.calls (x y : Nat) (w : World) (hx : x < BB) (hy : y < BB) :
    Calls Try.prog 88 #[.agg (arr .u64 (num x)), .agg (arr .u64 (num y))] w fun e w' => e = .returned (.agg (arr .u64 (wid (x * y)))) ∧ Below w.heap.size w w' := by
  rw [← tm_wid x y hx hy]
  obtain ⟨M4, hM4⟩ : ∃ l, l = tmW (num x) (num y) 4 := ⟨_, rfl⟩
  rw [← hM4]
  have HM4 := Aside0.mk hM4
  clear hM4
  have LX := Aside0.mk (num_length x)
  have LY := Aside0.mk (num_length y)
  have OX := Aside0.mk (num_ok x)
  have OY := Aside0.mk (num_ok y)
  have LW := Aside0.mk (tmW_length (num x) (num y))
  have LR := Aside0.mk (fun i k => (tmR_length (num x) (num y) (tmW (num x) (num y) i) i k).trans (tmW_length _ _ i))
  have OR := Aside0.mk (fun i (hi : i < 4) k hk => tmR_ok x y i hi _ (tmW_ok x y i (by omega)) (tmW_length _ _ i) k hk)
  have SW := Aside0.mk (fun i => show tmW (num x) (num y) (i + 1) = (tmR (num x) (num y) i (tmW (num x) (num y) i) 4).1.set (i + 4) (tmR (num x) (num y) i (tmW (num x) (num y) i) 4).2 from by simp only [tmW])
  have S := Aside0.mk (((((St.start w).push rfl 36 .u64 (num x)).push (World.size_alloc ..) 36 .u64 (num y)).push (by rw [World.size_alloc, World.size_alloc]; rfl) 74 .u64 z8).push (by rw [World.size_alloc, World.size_alloc, World.size_alloc]; rfl) 74 .u64 z8)
  go_enter Try.func88, Try.ntmps88
  go_wp2_with (first
    | ((with_reducible refine gate_dst (N := 14) rfl ?_); refine ld_arr rfl 36 (.tmp 2) rfl w.heap.size rfl (S.out.blk 0 rfl) Try.underlying36 (m := 4) (by kernel_rfl) (num_length _) ?_))
  go_loopg [6, 7, 15] 4 (fun gg _ _ v15 wr => ∃ i : Nat, i ≤ 4 ∧ 4 - i ≤ gg ∧ v15 = .int .i64 i ∧ Aside0 (St w [⟨36, .u64, num x⟩, ⟨36, .u64, num y⟩, ⟨74, .u64, z8⟩, ⟨74, .u64, tmW (num x) (num y) i⟩] wr))
  case atStart => exact ⟨0, by omega, by omega, rfl, S⟩
  case round =>
    obtain ⟨i, hi, hg, rfl, S1⟩ := hrel
    by_cases hlt : i < 4
    · have hlti : (i : Int) < 4 := by omega
      have a := getD_range OX.out i (by rw [LX.out]; omega)
      have a1 := a.1
      have a2 : (num x).getD i 0 < 18446744073709551616 := a.2
      clear a
      have hix : ∀ W, (Instr.index 36 (.agg (arr .u64 (num x))) (.int .i64 (i : Int))).run Try.prog W = .ok (.int .u64 ((num x).getD i 0)) W := fun W => run_index_arr 36 34 4 .u64 (num x) i Try.underlying36 .u64 Try.underlying34 (by kernel_rfl) hlt LX.out
      have ER := Aside0.mk (fun k => show tmR (num x) (num y) i (tmW (num x) (num y) i) (k + 1) = ((tmR (num x) (num y) i (tmW (num x) (num y) i) k).1.set (i + k) (((num x).getD i 0 * (num y).getD k 0 + (tmR (num x) (num y) i (tmW (num x) (num y) i) k).1.getD (i + k) 0 + (tmR (num x) (num y) i (tmW (num x) (num y) i) k).2) % 18446744073709551616), ((num x).getD i 0 * (num y).getD k 0 + (tmR (num x) (num y) i (tmW (num x) (num y) i) k).1.getD (i + k) 0 + (tmR (num x) (num y) i (tmW (num x) (num y) i) k).2) / 18446744073709551616) from rfl)
      have ORi := Aside0.mk (fun k hk => OR.out i hlt k hk)
      have LRi := Aside0.mk (fun k => LR.out i k)
      have E0 := Aside0.mk (show tmR (num x) (num y) i (tmW (num x) (num y) i) 0 = (tmW (num x) (num y) i, 0) from rfl)
      have SWi := Aside0.mk (SW.out i)
      generalize (num x).getD i 0 = a at *
      generalize tmR (num x) (num y) i (tmW (num x) (num y) i) = R at *
      go_wp2_with (first
        | ((with_reducible refine gate_dst (N := 19) rfl ?_); refine ld_arr rfl 36 (.tmp 3) rfl (w.heap.size + 1) rfl (S1.out.blk 1 rfl) Try.underlying36 (m := 4) (by kernel_rfl) (num_length _) ?_))
      go_loopg [8, 9, 10, 11, 12, 13, 20] 4 (fun gg2 v8 _ _ _ _ _ v20 wr2 => ∃ k : Nat, k ≤ 4 ∧ 4 - k ≤ gg2 ∧ v20 = .int .i64 k ∧ v8 = .int .u64 (R k).2 ∧ Aside0 (St w [⟨36, .u64, num x⟩, ⟨36, .u64, num y⟩, ⟨74, .u64, z8⟩, ⟨74, .u64, (R k).1⟩] wr2))
      case atStart => exact ⟨0, by omega, by omega, rfl, by rw [E0.out], by rw [E0.out]; exact S1⟩
      case round =>
        obtain ⟨k, hk, hg2, rfl, rfl, S2⟩ := hrel
        obtain ⟨o1, o2, o3⟩ := ORi.out k hk
        by_cases hlt2 : k < 4
        · have hlti2 : (k : Int) < 4 := by omega
          have b := getD_range OY.out k (by rw [LY.out]; omega)
          have b1 := b.1
          have b2 : (num y).getD k 0 < 18446744073709551616 := b.2
          clear b
          have hiy : ∀ W, (Instr.index 36 (.agg (arr .u64 (num y))) (.int .i64 (k : Int))).run Try.prog W = .ok (.int .u64 ((num y).getD k 0)) W := fun W => run_index_arr 36 34 4 .u64 (num y) k Try.underlying36 .u64 Try.underlying34 (by kernel_rfl) hlt2 LY.out
          have hc1 := S2.out.cell 3 rfl (i + k) (by rw [LRi.out]; omega)
          have hf1 := blk_frozen (S2.out.blk 3 rfl) (i + k)
          have q := getD_range o1 (i + k) (by rw [LRi.out]; omega)
          have q1 := q.1
          have q2 : (R k).1.getD (i + k) 0 < 18446744073709551616 := q.2
          clear q
          have P0 := Aside0.mk (fun v => S2.out.set 3 rfl (i + k) v)
          have EQ := Aside0.mk (ER.out k)
          obtain ⟨j, hj⟩ : ∃ j : Nat, j = i + k := ⟨_, rfl⟩
          have hj1 : (i : Int) + (k : Int) = (j : Int) := by omega
          have hj2 : (j : Int) < 8 := by omega
          rw [← hj] at hc1 hf1 P0 EQ q1 q2
          clear hj o1
          generalize (R k).1.getD j 0 = o at *
          generalize (num y).getD k 0 = b at *
          generalize (R k).2 = c at *
          have hp := prod64 a b ⟨a1, a2⟩ ⟨b1, b2⟩
          have HM := Aside0.mk (fun W => mul64I.calls a b a1 a2 b1 b2 W)
          generalize a * b = p at *
          obtain ⟨ph, eph⟩ : ∃ ph, ph = p / 18446744073709551616 := ⟨_, rfl⟩
          obtain ⟨pl, epl⟩ : ∃ pl, pl = p % 18446744073709551616 := ⟨_, rfl⟩
          rw [← eph, ← epl] at HM
          have hadd1 := fun W => add64_calls pl o 0 (by omega) q1 (by omega) (by omega) W
          obtain ⟨s1, es1⟩ : ∃ s1, s1 = (pl + o + 0) % 18446744073709551616 := ⟨_, rfl⟩
          obtain ⟨c1, ec1⟩ : ∃ c1, c1 = (pl + o + 0) / 18446744073709551616 := ⟨_, rfl⟩
          rw [← es1, ← ec1] at hadd1
          have hadd2 := fun W => add64_calls s1 c 0 (by omega) o2 (by omega) (by omega) W
          obtain ⟨s2, es2⟩ : ∃ s2, s2 = (s1 + c + 0) % 18446744073709551616 := ⟨_, rfl⟩
          obtain ⟨c2, ec2⟩ : ∃ c2, c2 = (s1 + c + 0) / 18446744073709551616 := ⟨_, rfl⟩
          rw [← es2, ← ec2] at hadd2
          have w1 : 0 ≤ ph + c1 := by omega
          have w2 : ph + c1 < 18446744073709551616 := by omega
          have w3 : 0 ≤ ph + c1 + c2 := by omega
          have w4 : ph + c1 + c2 < 18446744073709551616 := by omega
          have f1 : (p + o + c) % 18446744073709551616 = s2 := by omega
          have f2 : (p + o + c) / 18446744073709551616 = ph + c1 + c2 := by omega
          rw [f1, f2] at EQ
          have P := Aside0.mk (P0.out s2)
          clear f1 f2 es1 ec1 es2 ec2 eph epl hp P0
          go_wp2_with ((with_reducible refine (HM.out _).mono ?_); rintro e w1 ⟨rfl, rfl⟩)
          go_roundg (4 - (k + 1))
          case measure => omega
          case rel => exact ⟨k + 1, by omega, by omega, by go_num, by rw [EQ.out], by rw [EQ.out]; exact P⟩
        · have hk4 : k = 4 := by omega
          subst hk4
          have hneg : ¬ ((4 : Nat) : Int) < 4 := by omega
          obtain ⟨j, hj⟩ : ∃ j : Nat, j = i + 4 := ⟨_, rfl⟩
          have hj1 : (i : Int) + 4 = (j : Int) := by omega
          have hj2 : (j : Int) < 8 := by omega
          have hc1 := S2.out.cell 3 rfl j (by rw [LRi.out]; omega)
          have hf1 := blk_frozen (S2.out.blk 3 rfl) j
          have P := Aside0.mk (S2.out.set 3 rfl j (R 4).2)
          have EQ := SWi
          rw [← hj] at EQ
          clear hj o1
          generalize (R 4).2 = c at *
          go_wp2
          go_roundg (4 - (i + 1))
          case measure => omega
          case rel => exact ⟨i + 1, by omega, by omega, by go_num, by rw [EQ.out]; exact P⟩
    · have hi4 : i = 4 := by omega
      subst hi4
      have hneg : ¬ ((4 : Nat) : Int) < 4 := by omega
      have l := LW.out 4
      rw [← HM4.out] at S1 l
      have L := Aside0.mk l
      clear l
      go_wp2_with (first
        | ((with_reducible refine gate_dst (N := 64) rfl ?_); refine ld_arr rfl 74 (.tmp 5) rfl (w.heap.size + 3) rfl (S1.out.blk 3 rfl) Try.underlying74 (m := 8) (by kernel_rfl) L.out ?_)
        | (refine st_arr rfl 74 (.tmp 4) (.tmp 64) rfl (w.heap.size + 2) (xs := M4) rfl rfl (S1.out.blk 2 rfl) (m := 8) (by kernel_rfl) L.out (by rw [L.out]; rfl) ?_; intro w' h1 h2 h4 h3; have H1 := Aside0.mk h1; have S4 := Aside0.mk (S1.out.row 2 rfl h1 h2 h3); clear h1 h2 h3 h4))
      exact bodyPost_ret (results_cell_row Try.results88 _ _ (w.heap.size + 2) 74 _ (0, 0) _ rfl H1.out Try.underlying74 rfl (by rw [arr_size, L.out]; kernel_rfl)) rfl ⟨rfl, S4.out.below⟩


/-! ### impl_small: function 95 -/
set_option maxHeartbeats 1000000 in
set_option maxRecDepth 100000 in
theorem impl_small.calls (n : Nat) (w : World) (hn : n < 18446744073709551616) :
    Calls Try.prog 95 #[.int .u64 (n : Int)] w fun e w' => e = .returned (.agg (arr .u64 (num n))) ∧ Below w.heap.size w w' := by
  rw [← num_small n hn]
  clear hn
  go_enter Try.func95, Try.ntmps95
  go_wp2
  exact bodyPost_ret (results_cell_row Try.results95 _ _ w.heap.size 36 _ (0, 0) _ rfl (blk_new w _) Try.underlying36 rfl (by kernel_rfl)) rfl ⟨by rfl, below_alloc (Below.refl _ _) _⟩


end Go.Proofs.Ytijeackkgcnbgaa.XG
