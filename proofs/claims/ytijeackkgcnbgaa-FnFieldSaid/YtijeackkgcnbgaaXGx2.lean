-- Written by a program of this session (xp.py over the kit's printer, with functions proved by hand). Lean checks it.
import Derived.Test.YtijeackkgcnbgaaXGx0
import Derived.Test.YtijeackkgcnbgaaXGx1
namespace Go.Proofs.Ytijeackkgcnbgaa.XG
open Go.Proofs.Ytijeackkgcnbgaa.Limb Go.Proofs.Ytijeackkgcnbgaa.Arr Go.Proofs.Ytijeackkgcnbgaa.FldA Go.Proofs.Ytijeackkgcnbgaa.FldB Go.Proofs.Ytijeackkgcnbgaa.FldC Go.Proofs.Ytijeackkgcnbgaa.FldS Go.Proofs.Ytijeackkgcnbgaa.FldP Go.Proofs.Ytijeackkgcnbgaa.FldW Go.Proofs.Ytijeackkgcnbgaa.FldM Go.Proofs.Ytijeackkgcnbgaa.FldT Go.Proofs.Ytijeackkgcnbgaa.St Go.Proofs.Ytijeackkgcnbgaa.StOps Go.Proofs.Ytijeackkgcnbgaa.StMid Go.Proofs.Ytijeackkgcnbgaa.StEq Go.Proofs.Ytijeackkgcnbgaa.StIdx Go.Proofs.Ytijeackkgcnbgaa.StSrc
open Go.RowKit Go.Proofs.YtijeackkgcnbgaaW.PrintWords Go.Proofs.YtijeackkgcnbgaaW.PrintLast Go.Proofs.YtijeackkgcnbgaaW.PrintMore
attribute [local go_sem] max2_int min2_int max_two min_two max_three min_three max_four min_four   -- for this text's walks alone
set_option linter.unusedVariables false
set_option linter.unusedSimpArgs false

/-! ### impl_element_plus: function 51 -/
set_option maxHeartbeats 1000000 in
set_option maxRecDepth 100000 in
theorem impl_element_plus.calls (x y : Nat) (w : World) (hx : x < PP) (hy : y < PP) :
    Calls Try.prog 51 #[.agg (arr .u64 (num x)), .agg (arr .u64 (num y))] w fun e w' => e = .returned (.agg (arr .u64 (num ((x + y) % PP)))) ∧ Below w.heap.size w w' := by
  have hm : (x + y) % BB % PP = (x + y) % PP := by rw [Nat.mod_eq_of_lt (show x + y < BB by rw [PP_eq] at hx hy; rw [BB_eq]; omega)]
  obtain ⟨cv, HP⟩ : ∃ cv : Value, Aside0 (∀ W, Calls Try.prog 82 #[.agg (arr .u64 (num x)), .agg (arr .u64 (num y))] W fun e w' => e = .returned (.tuple #[.agg (arr .u64 (num (x + y))), cv]) ∧ Below W.heap.size W w') := ⟨_, ⟨fun W => impl_number_plus.calls x y W⟩⟩
  have HQ := Aside0.mk (fun W => impl_number_reduced.calls (x + y) W)
  rw [hm] at HQ
  clear hm hx hy
  generalize x + y = z at *
  generalize z % PP = r at *
  have S := Aside0.mk ((((St.start w).push rfl 44 .u64 (num x)).push (World.size_alloc ..) 44 .u64 (num y)).push (by rw [World.size_alloc, World.size_alloc]; rfl) 44 .u64 z4)
  go_enter Try.func51, Try.ntmps51
  go_wp2_with (first
    | ((with_reducible refine gate_dst (N := 8) rfl ?_); refine ld_arr rfl 44 (.tmp 2) rfl w.heap.size rfl (S.out.blk 0 rfl) Try.underlying44 (m := 4) (by kernel_rfl) (num_length _) ?_)
    | ((with_reducible refine gate_dst (N := 9) rfl ?_); refine ld_arr rfl 44 (.tmp 3) rfl (w.heap.size + 1) rfl (S.out.blk 1 rfl) Try.underlying44 (m := 4) (by kernel_rfl) (num_length _) ?_)
    | ((with_reducible refine (HP.out _).mono ?_); rintro e w1 ⟨rfl, hb⟩; have S1 := Aside0.mk (S.out.step hb); clear hb)
    | (refine st_arr rfl 36 (.tmp 5) (.tmp 11) rfl w1.heap.size (xs := num z) rfl rfl (blk_new w1 (.cells (arr .u64 z4) 36)) (m := 4) (by kernel_rfl) (num_length _) (by rw [num_length]; rfl) ?_; intro w2 h1 h2 h4 h3; have G2 := Aside0.mk h1; have S2 := Aside0.mk (St.other (S1.out.alloc (.cells (arr .u64 z4) 36)) h2 h3 S1.out.size); clear h1 h2 h3 h4)
    | ((with_reducible refine gate_dst (N := 13) rfl ?_); refine ld_arr rfl 36 (.tmp 5) rfl w1.heap.size rfl G2.out Try.underlying36 (m := 4) (by kernel_rfl) (num_length _) ?_)
    | ((with_reducible refine (HQ.out _).mono ?_); rintro e w3 ⟨rfl, hb⟩; have S3 := Aside0.mk (S2.out.step hb); clear hb)
    | (refine st_arr rfl 44 (.tmp 4) (.tmp 14) rfl (w.heap.size + 2) (xs := num r) rfl rfl (S3.out.blk 2 rfl) (m := 4) (by kernel_rfl) (num_length _) (by rw [num_length]; rfl) ?_; intro w' h1 h2 h4 h3; have H1 := Aside0.mk h1; have S4 := Aside0.mk (S3.out.row 2 rfl h1 h2 h3); clear h1 h2 h3 h4))
  exact bodyPost_ret (results_cell_row Try.results51 _ _ (w.heap.size + 2) 44 _ (0, 0) _ rfl H1.out Try.underlying44 rfl (by rw [arr_size, num_length]; kernel_rfl)) rfl ⟨rfl, S4.out.below⟩


/-! ### impl_number_bytes: function 45 -/
set_option maxHeartbeats 400000 in
set_option maxRecDepth 100000 in
theorem impl_number_bytes.calls (x : Nat) (w : World) :
    Calls Try.prog 45 #[.agg (arr .u64 (num x))] w fun e w' => ∃ v0_ : Value, e = .returned (v0_) ∧ Kd.R (Kd.int .u8) 5 w' w.heap.size (fun _ => True) v0_ (limbs 256 32 x) ∧ Below w.heap.size w w' := by
  obtain ⟨xs, hxs⟩ : ∃ l, l = num x := ⟨_, rfl⟩
  have HX := Aside0.mk (hxs ▸ num_length x)
  have UX := Aside0.mk (hxs ▸ num_ok x)
  rw [← hxs]
  have V : bytS xs 32 = limbs 256 32 x := by rw [hxs]; exact bytS_num x
  rw [← V]
  clear hxs V
  have HB0 := Aside0.mk (show Below w.heap.size w (w.alloc (.cells (arr .u64 xs) 36)) from below_alloc (Below.refl _ _) _)
  have BX := Aside0.mk (blk_new w (.cells (arr .u64 xs) 36))
  go_enter Try.func45, Try.ntmps45
  go_wp2_with (first | ((with_reducible refine gate_dst (N := 5) rfl ?_); refine Kd.R_make (Kd.int .u8) _ 5 rfl (N := 5) rfl 22 _ _ rfl (32 : Int) rfl rfl Try.underlying22 (.int .u8 0) 1 info5 rfl (by decide) (by omega) 0 (ok := fun _ => True) (okp := fun _ => True) rfl (fun _ hk => hk) trivial (by decide) (by decide) (Below.refl _ _) (Nat.le_refl _) ?_; intro v148 w5 ho6 hb hg_ hnew_; rw [World.size_alloc] at ho6; have HO := Aside0.mk ho6; have HB := Aside0.mk (below_step HB0.out hb); have B0 := Aside0.mk (blk_below BX.out hb); clear ho6 hb hg_ hnew_; obtain ⟨Ao, co, eo⟩ := Kd.R_slice HO.out; rw [List.length_replicate, show Int.toNat 32 = 32 from rfl] at eo; subst eo))
  go_loopg [4, 8] 32 (fun gg _ v8 wr => ∃ k : Nat, k ≤ 32 ∧ 32 - k ≤ gg ∧ v8 = .int .i64 k ∧ Aside0 (wr.heap[w.heap.size]? = some (.cells (arr .u64 xs) 36 (0, 0))) ∧ Aside0 (Kd.R (Kd.int .u8) 5 wr (w.heap.size + 1) (fun _ => True) (.slice Ao 32 co) (bytS xs k)) ∧ Aside0 (Below w.heap.size w wr))
  case atStart => exact ⟨0, by omega, by omega, rfl, B0, HO, HB⟩
  case round =>
    obtain ⟨k, hk, hg, rfl, B1, HR, HB1⟩ := hrel
    by_cases hlt : k < 32
    · have hlti : (k : Int) < 32 := by omega
      obtain ⟨go, co', eo', gb, gl, cl, HG⟩ := Kd.R_form HR.out (by rw [bytS_length]; omega)
      injection eo' with ea en ec
      subst ea
      subst ec
      clear en
      obtain ⟨hx0, hf0⟩ := Kd.R_celln 0 HR.out (k : Int) (by omega) (by omega)
      obtain ⟨i, hi⟩ : ∃ i : Nat, i = k / 8 := ⟨_, rfl⟩
      obtain ⟨q, hq⟩ : ∃ q : Nat, q = k % 8 := ⟨_, rfl⟩
      obtain ⟨n, hn⟩ : ∃ n : Nat, n = 8 * q := ⟨_, rfl⟩
      have HP := Kd.R_putg HR.out (k : Int) ((xs.getD i 0 / 2 ^ n) % 256)
      simp only [Int.toNat_natCast] at hx0 hf0 HP
      have hc1 := blk_get B1.out i (by have := HX.out; omega)
      have hi1 : (k : Int) / 8 = (i : Int) := by omega
      have hq1 : (k : Int) % 8 = (q : Int) := by omega
      have hq2 : (k : Int).tmod 8 = (q : Int) := by rw [Int.tmod_eq_emod_of_nonneg (by omega)]; omega
      have hn1 : 8 * (q : Int) = (n : Int) := by omega
      have i4 : i < 4 := by omega
      have n56 : min n 64 = n := by omega
      have h4 : (i : Int) < 4 := by omega
      have hn2 : (n : Int) ≤ 56 := by omega
      have B2 := Aside0.mk (blk_far B1.out (p := ⟨go, k, none⟩) (by show w.heap.size ≠ go; omega) (.int .u8 ((xs.getD i 0 / 2 ^ n) % 256)))
      have HB2 := Aside0.mk (below_set (j := k) (v := .int .u8 ((xs.getD i 0 / 2 ^ n) % 256)) HB1.out (show w.heap.size ≤ go by omega))
      have HP2 := Aside0.mk HP.1
      have EQ := Aside0.mk (show bytS xs (k + 1) = (bytS xs k).set k ((xs.getD i 0 / 2 ^ n) % 256) from by rw [hi, hn, hq]; rfl)
      have a0 := getD_range UX.out i (by have := HX.out; omega)
      have a1 := a0.1
      clear hi hq hn HP gb gl HG a0
      generalize xs.getD i 0 = a at *
      go_wp2
      go_roundg (32 - (k + 1))
      case measure => omega
      case rel => exact ⟨k + 1, by omega, by omega, by go_num, B2, by rw [EQ.out]; exact HP2, HB2⟩
    · obtain rfl : k = 32 := by omega
      have hneg : ¬ ((32 : Nat) : Int) < 32 := by omega
      go_wp2
      go_ret
      exact ⟨_, rfl, Kd.R_lower HR.out (by omega), HB1.out⟩


/-! ### impl_element_bytes: function 52 -/
set_option maxHeartbeats 1000000 in
set_option maxRecDepth 100000 in
theorem impl_element_bytes.calls (x : Nat) (w : World) :
    Calls Try.prog 52 #[.agg (arr .u64 (num x))] w fun e w' => ∃ v0_ : Value, e = .returned (v0_) ∧ Kd.R (Kd.int .u8) 5 w' w.heap.size (fun _ => True) v0_ (limbs 256 32 x) ∧ Below w.heap.size w w' := by
  have S := Aside0.mk ((St.start w).push rfl 44 .u64 (num x))
  have HC := Aside0.mk (impl_number_bytes.calls x (w.alloc (.cells (arr .u64 (num x)) 44)))
  go_enter Try.func52, Try.ntmps52
  go_wp2_with (first
    | ((with_reducible refine gate_dst (N := 3) rfl ?_); refine ld_arr rfl 44 (.tmp 1) rfl w.heap.size rfl (S.out.blk 0 rfl) Try.underlying44 (m := 4) (by kernel_rfl) (num_length _) ?_)
    | ((with_reducible refine (HC.out).mono ?_); rintro e w1 ⟨v, rfl, hR, hb⟩; have S1 := Aside0.mk (S.out.step hb); have HR := Aside0.mk (Kd.R_lower hR (below_size S.out.below)); clear hb hR))
  go_ret
  exact ⟨_, rfl, HR.out, S1.out.below⟩


/-! ### impl_FieldAdd: function 24 -/
def impl_FieldAdd.f (l0 : List Int) (l1 : List Int) : Option (List Int × Int) := if okE l0 && okE l1 then some (limbs 256 32 ((bval l0 + bval l1) % PP), 0) else none
set_option maxHeartbeats 1000000 in
set_option maxRecDepth 100000 in
theorem impl_FieldAdd.calls (A0 : Option Addr) (c0 : Nat) (l0 : List Int) (A1 : Option Addr) (c1 : Nat) (l1 : List Int) (r1 : List Int) (r2 : Int) (w : World) (hr0 : Kd.C (Kd.int .u8) w A0 l0.length l0) (hc0 : l0.length ≤ c0) (hr1 : Kd.C (Kd.int .u8) w A1 l1.length l1) (hc1 : l1.length ≤ c1) (h : impl_FieldAdd.f l0 l1 = some (r1, r2)) :
    Calls Try.prog 24 #[.slice A0 l0.length c0, .slice A1 l1.length c1] w fun e w' => ∃ v0_ : Value, e = .returned (.tuple #[v0_, .int .i64 r2]) ∧ Kd.R (Kd.int .u8) 5 w' w.heap.size (fun _ => True) v0_ r1 ∧ Below w.heap.size w w' := by
  unfold impl_FieldAdd.f at h
  by_cases ho : (okE l0 && okE l1) = true
  · rw [if_pos ho] at h
    simp only [Option.some.injEq, Prod.mk.injEq] at h
    obtain ⟨rfl, rfl⟩ := h
    rw [Bool.and_eq_true] at ho
    obtain ⟨_, k0, e0, p0, _⟩ := okE_facts ho.1
    obtain ⟨_, k1, e1, p1, _⟩ := okE_facts ho.2
    have hPB : PP < BB := by decide
    have HC := Aside0.mk (fun t => elementsCode_two A0 c0 l0 A1 c1 l1 t w hr0 hc0 hr1 hc1 ho.1 ho.2)
    have HX := Aside0.mk (fun W (hb : Below w.heap.size w W) => impl_elementOf.calls A0 c0 l0 W (Kd.C_below hr0 hb) (by omega) k0)
    have HY := Aside0.mk (fun W (hb : Below w.heap.size w W) => impl_elementOf.calls A1 c1 l1 W (Kd.C_below hr1 hb) (by omega) k1)
    have HT := Aside0.mk (fun W => impl_element_plus.calls (bval l0) (bval l1) W p0 p1)
    have HB := Aside0.mk (fun W => impl_element_bytes.calls ((bval l0 + bval l1) % PP) W)
    clear ho k0 k1 p0 p1 hPB hr0 hc0 hr1 hc1 e0 e1
    generalize (bval l0 + bval l1) % PP = r at *
    generalize bval l0 = x at *
    generalize bval l1 = y at *
    have B0 := Aside0.mk (fun t => below_alloc (Below.refl w.heap.size w) (.cells #[.slice A0 l0.length c0, .slice A1 l1.length c1] t))
    go_enter Try.func24, Try.ntmps24
    go_wp2_with (first
      | ((with_reducible refine (HC.out _).mono ?_); rintro e w1 ⟨rfl, hb⟩; have B1 := Aside0.mk (below_step (B0.out _) hb); clear hb)
      | ((with_reducible refine (HX.out _ B1.out).mono ?_); rintro e w2 ⟨rfl, hb⟩; have B2 := Aside0.mk (below_step B1.out hb); clear hb)
      | ((with_reducible refine (HY.out _ B2.out).mono ?_); rintro e w3 ⟨rfl, hb⟩; have B3 := Aside0.mk (below_step B2.out hb); clear hb)
      | ((with_reducible refine (HT.out _).mono ?_); rintro e w4 ⟨rfl, hb⟩; have B4 := Aside0.mk (below_step B3.out hb); clear hb)
      | ((with_reducible refine (HB.out _).mono ?_); rintro e w5 ⟨v, rfl, hR, hb⟩; have HR := Aside0.mk (Kd.R_lower hR (below_size B4.out)); have B5 := Aside0.mk (below_step B4.out hb); clear hb hR))
    go_ret2
    exact ⟨_, rfl, HR.out, B5.out⟩
  · rw [if_neg ho] at h; cases h


/-! ### impl_element_minus: function 54 -/
set_option maxHeartbeats 1000000 in
set_option maxRecDepth 100000 in
theorem impl_element_minus.calls (x y : Nat) (w : World) (hx : x < PP) (hy : y < PP) :
    Calls Try.prog 54 #[.agg (arr .u64 (num x)), .agg (arr .u64 (num y))] w fun e w' => e = .returned (.agg (arr .u64 (num ((x + PP - y) % PP)))) ∧ Below w.heap.size w w' := by
  have hpb : PP + PP < BB := by decide
  have e1 : (x + PP) % BB + BB - y % BB = (x + PP - y) + BB := by rw [Nat.mod_eq_of_lt (show x + PP < BB by omega), Nat.mod_eq_of_lt (show y < BB by omega)]; omega
  have e2 : ((x + PP - y) + BB) % BB % PP = (x + PP - y) % PP := by rw [Nat.add_mod_right, Nat.mod_eq_of_lt (show x + PP - y < BB by omega)]
  obtain ⟨cv, HP⟩ : ∃ cv : Value, Aside0 (∀ W, Calls Try.prog 82 #[.agg (arr .u64 (num x)), .agg (arr .u64 (num PP))] W fun e w' => e = .returned (.tuple #[.agg (arr .u64 (num (x + PP))), cv]) ∧ Below W.heap.size W w') := ⟨_, ⟨fun W => impl_number_plus.calls x PP W⟩⟩
  obtain ⟨dv, HM⟩ : ∃ dv : Value, Aside0 (∀ W, Calls Try.prog 84 #[.agg (arr .u64 (num (x + PP))), .agg (arr .u64 (num y))] W fun e w' => e = .returned (.tuple #[.agg (arr .u64 (num (x + PP - y + BB))), dv]) ∧ Below W.heap.size W w') := ⟨_, ⟨fun W => by
    have h := impl_number_minus.calls (x + PP) y W
    rw [show P64 ^ 4 = BB from by decide, e1] at h
    exact h⟩⟩
  have HQ := Aside0.mk (fun W => impl_number_reduced.calls (x + PP - y + BB) W)
  rw [e2] at HQ
  clear e1 e2 hx hy hpb
  generalize x + PP - y + BB = u at *
  generalize (x + PP - y) % PP = r at *
  generalize x + PP = z at *
  have S := Aside0.mk ((((St.start w).push rfl 44 .u64 (num x)).push (World.size_alloc ..) 44 .u64 (num y)).push (by rw [World.size_alloc, World.size_alloc]; rfl) 44 .u64 z4)
  go_enter Try.func54, Try.ntmps54
  go_wp2
  refine abs_world (bs := [⟨44, .u64, num x⟩, ⟨44, .u64, num y⟩, ⟨44, .u64, z4⟩]) S.out ?_
  clear S
  intro W0 hS
  have T := Aside0.mk hS.drew
  clear hS
  refine start_ (n := 9) (S := fun w' => St w [⟨44, .u64, num x⟩, ⟨44, .u64, num y⟩, ⟨44, .u64, z4⟩] w') (ds := []) #[false, false, false, false, false, false, false, false, false] (by kernel_rfl) rfl rfl (T.out) (fun hHeld => ?_)
  refine take_ (i := 0) (N := some 10) (v := ?_) (a' := ?_) #[true, false, false, false, false, false, false, false, false] rfl rfl (by kernel_rfl) (fun _ _ _ h => h) (Or.inl ⟨by rfl, ?_⟩) hHeld ?_ ?_
  rotate_left
  · intro w' s0
    refine (run_ld 44 (.tmp 2) (by rfl) w.heap.size (by rfl) (s0.blk 0 rfl) Try.underlying44 (m := 4) (by kernel_rfl) (num_length _)).trans ?_; with_reducible rfl
  rotate_left
  · simp only [Act.put, List.setIfInBounds_toArray, List.set_cons_zero, List.set_cons_succ, i64_w, i32_w]
    rfl
  refine join_ (σ := Nat) 2 #[true, true, true, true, true, true, true, false, false] (fun s_ => [(11, .agg (arr .u64 (num PP))), (12, .tuple #[.agg (arr .u64 (num z)), cv]), (5, .pointer (some ⟨s_, 0, none⟩)), (9, .tuple #[.agg (arr .u64 (num z)), cv]), (13, .agg (arr .u64 (num z))), (14, cv)]) (fun s_ w' => (St w [⟨44, .u64, num x⟩, ⟨44, .u64, num y⟩, ⟨44, .u64, z4⟩] w') ∧ w'.heap[s_]? = some (.cells (arr .u64 z4) 36 (0, 0)) ∧ w.heap.size + 3 ≤ s_) ?_ ?_
  rotate_left
  · intro hCont
    refine two_ (i := 1) (j := 6) (Ni := some 11) (Nj := some 5) #[true, true, false, false, false, false, false, false, false] #[true, false, false, false, false, false, true, false, false] rfl rfl rfl rfl (by kernel_rfl) (by decide) (by decide) (fun K hK => ?_) (fun K hK => ?_)
    · skip
      refine goes_ Try.func77 (by kernel_rfl) rfl #[] (by rfl) rfl rfl (by simp only [List.map_toArray, List.map_cons, List.map_nil] <;> rfl) ?_
      with_reducible refine (impl_prime.calls _).mono ?_
      rintro e w3 ⟨rfl, hb⟩
      refine ⟨_, rfl, ?_⟩
      have T_1 := Aside0.mk (T.out.step hb)
      clear hb
      refine hK.out _ _ (T_1.out) (fun hHeld => ?_)
      clear hK K
      refine norm_ (a' := ?_) ?_ ?_
      rotate_left
      · show Act.put _ (some 11) _ = _
        simp only [Act.put, List.setIfInBounds_toArray, List.set_cons_zero, List.set_cons_succ, i64_w, i32_w]
        rfl
      refine two_ (i := 2) (j := 6) (Ni := some 12) (Nj := some 5) #[true, true, true, false, false, false, false, false, false] #[true, true, false, false, false, false, true, false, false] rfl rfl rfl rfl (by kernel_rfl) (by decide) (by decide) (fun K hK => ?_) (fun K hK => ?_)
      · skip
        refine goes_ Try.func82 (by kernel_rfl) rfl #[.agg (arr .u64 (num x)), .agg (arr .u64 (num PP))] (by rfl) rfl rfl (by simp only [List.map_toArray, List.map_cons, List.map_nil] <;> rfl) ?_
        with_reducible refine (HP.out _).mono ?_
        rintro e w3 ⟨rfl, hb⟩
        refine ⟨_, rfl, ?_⟩
        have T_1_2 := Aside0.mk (T_1.out.step hb)
        clear hb
        refine hK.out _ _ (T_1_2.out) (fun hHeld => ?_)
        clear hK K
        refine norm_ (a' := ?_) ?_ ?_
        rotate_left
        · show Act.put _ (some 12) _ = _
          simp only [Act.put, List.setIfInBounds_toArray, List.set_cons_zero, List.set_cons_succ, i64_w, i32_w]
          rfl
        refine pure_ (i := 3) (N := some 9) (v := ?_) (a' := ?_) #[true, true, true, true, false, false, false, false, false] rfl rfl (by kernel_rfl) (fun _ _ _ h => h) (Or.inl ⟨by rfl, ?_⟩) ?_ ?_
        rotate_left
        · intro w'
          go_simp
          with_reducible rfl
        rotate_left
        · simp only [Act.put, List.setIfInBounds_toArray, List.set_cons_zero, List.set_cons_succ, i64_w, i32_w]
          rfl
        refine pure_ (i := 4) (N := some 13) (v := ?_) (a' := ?_) #[true, true, true, true, true, false, false, false, false] rfl rfl (by kernel_rfl) (fun _ _ _ h => h) (Or.inl ⟨by rfl, ?_⟩) ?_ ?_
        rotate_left
        · intro w'
          go_simp
          with_reducible rfl
        rotate_left
        · simp only [Act.put, List.setIfInBounds_toArray, List.set_cons_zero, List.set_cons_succ, i64_w, i32_w]
          rfl
        refine pure_ (i := 5) (N := some 14) (v := ?_) (a' := ?_) #[true, true, true, true, true, true, false, false, false] rfl rfl (by kernel_rfl) (fun _ _ _ h => h) (Or.inl ⟨by rfl, ?_⟩) ?_ ?_
        rotate_left
        · intro w'
          go_simp
          with_reducible rfl
        rotate_left
        · simp only [Act.put, List.setIfInBounds_toArray, List.set_cons_zero, List.set_cons_succ, i64_w, i32_w]
          rfl
        refine one_ (i := 6) (N := some 5) #[true, true, true, true, true, true, true, false, false] rfl rfl (by kernel_rfl) (by decide) (fun K hK => ?_)
        refine value_ (w1 := ?_) (v := ?_) (by rfl) rfl ?_ ?_
        rotate_left 2
        · go_simp
          constructor
          · rfl
          · rfl
        have T_1_2_6 := Aside0.mk (T_1_2.out.alloc (.cells (arr .u64 z4) 36))
        have G6_1_2_6 := Aside0.mk (T_1_2.out.new (.cells (arr .u64 z4) 36))
        have E6 := Aside0.mk T_1_2.out.size
        refine hK.out _ _ (T_1_2_6.out) (fun hHeld => ?_)
        clear hK K
        refine norm_ (a' := ?_) ?_ ?_
        rotate_left
        · show Act.put _ (some 5) _ = _
          simp only [Act.put, List.setIfInBounds_toArray, List.set_cons_zero, List.set_cons_succ, i64_w, i32_w]
          rfl
        exact norm_ (by first | (simp only [putAll, Act.put, List.setIfInBounds_toArray, List.set_cons_zero, List.set_cons_succ]; done) | (simp only [putAll, Act.put, List.setIfInBounds_toArray, List.set_cons_zero, List.set_cons_succ]; rfl)) (hCont _ _ ⟨T_1_2_6.out, G6_1_2_6.out, E6.out⟩)
      · skip
        refine value_ (w1 := ?_) (v := ?_) (by rfl) rfl ?_ ?_
        rotate_left 2
        · go_simp
          constructor
          · rfl
          · rfl
        have T_1_6 := Aside0.mk (T_1.out.alloc (.cells (arr .u64 z4) 36))
        have G6_1_6 := Aside0.mk (T_1.out.new (.cells (arr .u64 z4) 36))
        have E6 := Aside0.mk T_1.out.size
        refine hK.out _ _ (T_1_6.out) (fun hHeld => ?_)
        clear hK K
        refine norm_ (a' := ?_) ?_ ?_
        rotate_left
        · show Act.put _ (some 5) _ = _
          simp only [Act.put, List.setIfInBounds_toArray, List.set_cons_zero, List.set_cons_succ, i64_w, i32_w]
          rfl
        refine one_ (i := 2) (N := some 12) #[true, true, true, false, false, false, true, false, false] rfl rfl (by kernel_rfl) (by decide) (fun K hK => ?_)
        refine goes_ Try.func82 (by kernel_rfl) rfl #[.agg (arr .u64 (num x)), .agg (arr .u64 (num PP))] (by rfl) rfl rfl (by simp only [List.map_toArray, List.map_cons, List.map_nil] <;> rfl) ?_
        with_reducible refine (HP.out _).mono ?_
        rintro e w3 ⟨rfl, hb⟩
        refine ⟨_, rfl, ?_⟩
        have T_1_6_2 := Aside0.mk (T_1_6.out.step hb)
        have G6_1_6_2 := Aside0.mk (blk_below G6_1_6.out hb)
        clear hb
        refine hK.out _ _ (T_1_6_2.out) (fun hHeld => ?_)
        clear hK K
        refine norm_ (a' := ?_) ?_ ?_
        rotate_left
        · show Act.put _ (some 12) _ = _
          simp only [Act.put, List.setIfInBounds_toArray, List.set_cons_zero, List.set_cons_succ, i64_w, i32_w]
          rfl
        refine pure_ (i := 3) (N := some 9) (v := ?_) (a' := ?_) #[true, true, true, true, false, false, true, false, false] rfl rfl (by kernel_rfl) (fun _ _ _ h => h) (Or.inl ⟨by rfl, ?_⟩) ?_ ?_
        rotate_left
        · intro w'
          go_simp
          with_reducible rfl
        rotate_left
        · simp only [Act.put, List.setIfInBounds_toArray, List.set_cons_zero, List.set_cons_succ, i64_w, i32_w]
          rfl
        refine pure_ (i := 4) (N := some 13) (v := ?_) (a' := ?_) #[true, true, true, true, true, false, true, false, false] rfl rfl (by kernel_rfl) (fun _ _ _ h => h) (Or.inl ⟨by rfl, ?_⟩) ?_ ?_
        rotate_left
        · intro w'
          go_simp
          with_reducible rfl
        rotate_left
        · simp only [Act.put, List.setIfInBounds_toArray, List.set_cons_zero, List.set_cons_succ, i64_w, i32_w]
          rfl
        refine pure_ (i := 5) (N := some 14) (v := ?_) (a' := ?_) #[true, true, true, true, true, true, true, false, false] rfl rfl (by kernel_rfl) (fun _ _ _ h => h) (Or.inl ⟨by rfl, ?_⟩) ?_ ?_
        rotate_left
        · intro w'
          go_simp
          with_reducible rfl
        rotate_left
        · simp only [Act.put, List.setIfInBounds_toArray, List.set_cons_zero, List.set_cons_succ, i64_w, i32_w]
          rfl
        exact norm_ (by first | (simp only [putAll, Act.put, List.setIfInBounds_toArray, List.set_cons_zero, List.set_cons_succ]; done) | (simp only [putAll, Act.put, List.setIfInBounds_toArray, List.set_cons_zero, List.set_cons_succ]; rfl)) (hCont _ _ ⟨T_1_6_2.out, G6_1_6_2.out, E6.out⟩)
    · skip
      refine value_ (w1 := ?_) (v := ?_) (by rfl) rfl ?_ ?_
      rotate_left 2
      · go_simp
        constructor
        · rfl
        · rfl
      have T_6 := Aside0.mk (T.out.alloc (.cells (arr .u64 z4) 36))
      have G6_6 := Aside0.mk (T.out.new (.cells (arr .u64 z4) 36))
      have E6 := Aside0.mk T.out.size
      refine hK.out _ _ (T_6.out) (fun hHeld => ?_)
      clear hK K
      refine norm_ (a' := ?_) ?_ ?_
      rotate_left
      · show Act.put _ (some 5) _ = _
        simp only [Act.put, List.setIfInBounds_toArray, List.set_cons_zero, List.set_cons_succ, i64_w, i32_w]
        rfl
      refine one_ (i := 1) (N := some 11) #[true, true, false, false, false, false, true, false, false] rfl rfl (by kernel_rfl) (by decide) (fun K hK => ?_)
      refine goes_ Try.func77 (by kernel_rfl) rfl #[] (by rfl) rfl rfl (by simp only [List.map_toArray, List.map_cons, List.map_nil] <;> rfl) ?_
      with_reducible refine (impl_prime.calls _).mono ?_
      rintro e w3 ⟨rfl, hb⟩
      refine ⟨_, rfl, ?_⟩
      have T_6_1 := Aside0.mk (T_6.out.step hb)
      have G6_6_1 := Aside0.mk (blk_below G6_6.out hb)
      clear hb
      refine hK.out _ _ (T_6_1.out) (fun hHeld => ?_)
      clear hK K
      refine norm_ (a' := ?_) ?_ ?_
      rotate_left
      · show Act.put _ (some 11) _ = _
        simp only [Act.put, List.setIfInBounds_toArray, List.set_cons_zero, List.set_cons_succ, i64_w, i32_w]
        rfl
      refine one_ (i := 2) (N := some 12) #[true, true, true, false, false, false, true, false, false] rfl rfl (by kernel_rfl) (by decide) (fun K hK => ?_)
      refine goes_ Try.func82 (by kernel_rfl) rfl #[.agg (arr .u64 (num x)), .agg (arr .u64 (num PP))] (by rfl) rfl rfl (by simp only [List.map_toArray, List.map_cons, List.map_nil] <;> rfl) ?_
      with_reducible refine (HP.out _).mono ?_
      rintro e w3 ⟨rfl, hb⟩
      refine ⟨_, rfl, ?_⟩
      have T_6_1_2 := Aside0.mk (T_6_1.out.step hb)
      have G6_6_1_2 := Aside0.mk (blk_below G6_6_1.out hb)
      clear hb
      refine hK.out _ _ (T_6_1_2.out) (fun hHeld => ?_)
      clear hK K
      refine norm_ (a' := ?_) ?_ ?_
      rotate_left
      · show Act.put _ (some 12) _ = _
        simp only [Act.put, List.setIfInBounds_toArray, List.set_cons_zero, List.set_cons_succ, i64_w, i32_w]
        rfl
      refine pure_ (i := 3) (N := some 9) (v := ?_) (a' := ?_) #[true, true, true, true, false, false, true, false, false] rfl rfl (by kernel_rfl) (fun _ _ _ h => h) (Or.inl ⟨by rfl, ?_⟩) ?_ ?_
      rotate_left
      · intro w'
        go_simp
        with_reducible rfl
      rotate_left
      · simp only [Act.put, List.setIfInBounds_toArray, List.set_cons_zero, List.set_cons_succ, i64_w, i32_w]
        rfl
      refine pure_ (i := 4) (N := some 13) (v := ?_) (a' := ?_) #[true, true, true, true, true, false, true, false, false] rfl rfl (by kernel_rfl) (fun _ _ _ h => h) (Or.inl ⟨by rfl, ?_⟩) ?_ ?_
      rotate_left
      · intro w'
        go_simp
        with_reducible rfl
      rotate_left
      · simp only [Act.put, List.setIfInBounds_toArray, List.set_cons_zero, List.set_cons_succ, i64_w, i32_w]
        rfl
      refine pure_ (i := 5) (N := some 14) (v := ?_) (a' := ?_) #[true, true, true, true, true, true, true, false, false] rfl rfl (by kernel_rfl) (fun _ _ _ h => h) (Or.inl ⟨by rfl, ?_⟩) ?_ ?_
      rotate_left
      · intro w'
        go_simp
        with_reducible rfl
      rotate_left
      · simp only [Act.put, List.setIfInBounds_toArray, List.set_cons_zero, List.set_cons_succ, i64_w, i32_w]
        rfl
      exact norm_ (by first | (simp only [putAll, Act.put, List.setIfInBounds_toArray, List.set_cons_zero, List.set_cons_succ]; done) | (simp only [putAll, Act.put, List.setIfInBounds_toArray, List.set_cons_zero, List.set_cons_succ]; rfl)) (hCont _ _ ⟨T_6_1_2.out, G6_6_1_2.out, E6.out⟩)
  rintro g6_ w9 ⟨hHeld, hG6, hE6⟩
  have T9 := Aside0.mk hHeld
  have GG6 := Aside0.mk hG6
  have EE6 := Aside0.mk hE6
  clear hG6 hE6
  refine norm_ (a' := ?_) ?_ ?_
  rotate_left
  · simp only [putAll, Act.put, List.setIfInBounds_toArray, List.set_cons_zero, List.set_cons_succ]
    rfl
  refine one_ (i := 7) (N := none) #[true, true, true, true, true, true, true, true, false] rfl rfl (by kernel_rfl) (by decide) (fun K hK => ?_)
  refine st_step (by rfl) rfl 36 (.tmp 5) (.tmp 13) rfl g6_ rfl rfl GG6.out (m := 4) (by kernel_rfl) (num_length _) (by rw [num_length]; rfl) ?_
  intro w6 h1 h2 h3 h4
  have G1 := Aside0.mk h1
  have S1 := Aside0.mk (St.other T9.out h2 h3 EE6.out)
  clear h1 h2 h3 h4
  refine hK.out _ _ (S1.out) (fun hHeld => ?_)
  clear hK K
  refine pure_ (i := 8) (N := some 6) (v := ?_) (a' := ?_) #[true, true, true, true, true, true, true, true, true] rfl rfl (by kernel_rfl) (fun _ _ _ h => h) (Or.inl ⟨by rfl, ?_⟩) ?_ ?_
  rotate_left
  · intro w'
    go_simp
    with_reducible rfl
  rotate_left
  · simp only [Act.put, List.setIfInBounds_toArray, List.set_cons_zero, List.set_cons_succ, i64_w, i32_w]
    rfl
  refine done_ (by kernel_rfl) ?_

  go_wp2_with (first
    | ((with_reducible refine gate_dst (N := 16) rfl ?_); refine ld_arr rfl 36 (.tmp 5) rfl g6_ rfl G1.out Try.underlying36 (m := 4) (by kernel_rfl) (num_length _) ?_)
    | ((with_reducible refine gate_dst (N := 17) rfl ?_); refine ld_arr rfl 44 (.tmp 3) rfl (w.heap.size + 1) rfl (S1.out.blk 1 rfl) Try.underlying44 (m := 4) (by kernel_rfl) (num_length _) ?_)
    | ((with_reducible refine (HM.out _).mono ?_); rintro e w7 ⟨rfl, hb⟩; have S2 := Aside0.mk (S1.out.step hb); clear hb)
    | (refine st_arr rfl 36 (.tmp 7) (.tmp 19) rfl w7.heap.size (xs := num u) rfl rfl (blk_new w7 (.cells (arr .u64 z4) 36)) (m := 4) (by kernel_rfl) (num_length _) (by rw [num_length]; rfl) ?_; intro w8 h1 h2 h4 h3; have G3 := Aside0.mk h1; have S3 := Aside0.mk (St.other (S2.out.alloc (.cells (arr .u64 z4) 36)) h2 h3 S2.out.size); clear h1 h2 h3 h4)
    | ((with_reducible refine gate_dst (N := 21) rfl ?_); refine ld_arr rfl 36 (.tmp 7) rfl w7.heap.size rfl G3.out Try.underlying36 (m := 4) (by kernel_rfl) (num_length _) ?_)
    | ((with_reducible refine (HQ.out _).mono ?_); rintro e w9 ⟨rfl, hb⟩; have S4 := Aside0.mk (S3.out.step hb); clear hb)
    | (refine st_arr rfl 44 (.tmp 4) (.tmp 22) rfl (w.heap.size + 2) (xs := num r) rfl rfl (S4.out.blk 2 rfl) (m := 4) (by kernel_rfl) (num_length _) (by rw [num_length]; rfl) ?_; intro w' h1 h2 h4 h3; have H1 := Aside0.mk h1; have S5 := Aside0.mk (S4.out.row 2 rfl h1 h2 h3); clear h1 h2 h3 h4))
  exact bodyPost_ret (results_cell_row Try.results54 _ _ (w.heap.size + 2) 44 _ (0, 0) _ rfl H1.out Try.underlying44 rfl (by rw [arr_size, num_length]; kernel_rfl)) rfl ⟨rfl, S5.out.below⟩


/-! ### impl_FieldSub: function 26 -/
def impl_FieldSub.f (l0 : List Int) (l1 : List Int) : Option (List Int × Int) := if okE l0 && okE l1 then some (limbs 256 32 ((bval l0 + PP - bval l1) % PP), 0) else none
set_option maxHeartbeats 1000000 in
set_option maxRecDepth 100000 in
theorem impl_FieldSub.calls (A0 : Option Addr) (c0 : Nat) (l0 : List Int) (A1 : Option Addr) (c1 : Nat) (l1 : List Int) (r1 : List Int) (r2 : Int) (w : World) (hr0 : Kd.C (Kd.int .u8) w A0 l0.length l0) (hc0 : l0.length ≤ c0) (hr1 : Kd.C (Kd.int .u8) w A1 l1.length l1) (hc1 : l1.length ≤ c1) (h : impl_FieldSub.f l0 l1 = some (r1, r2)) :
    Calls Try.prog 26 #[.slice A0 l0.length c0, .slice A1 l1.length c1] w fun e w' => ∃ v0_ : Value, e = .returned (.tuple #[v0_, .int .i64 r2]) ∧ Kd.R (Kd.int .u8) 5 w' w.heap.size (fun _ => True) v0_ r1 ∧ Below w.heap.size w w' := by
  unfold impl_FieldSub.f at h
  by_cases ho : (okE l0 && okE l1) = true
  · rw [if_pos ho] at h
    simp only [Option.some.injEq, Prod.mk.injEq] at h
    obtain ⟨rfl, rfl⟩ := h
    rw [Bool.and_eq_true] at ho
    obtain ⟨_, k0, e0, p0, _⟩ := okE_facts ho.1
    obtain ⟨_, k1, e1, p1, _⟩ := okE_facts ho.2
    have hPB : PP < BB := by decide
    have HC := Aside0.mk (fun t => elementsCode_two A0 c0 l0 A1 c1 l1 t w hr0 hc0 hr1 hc1 ho.1 ho.2)
    have HX := Aside0.mk (fun W (hb : Below w.heap.size w W) => impl_elementOf.calls A0 c0 l0 W (Kd.C_below hr0 hb) (by omega) k0)
    have HY := Aside0.mk (fun W (hb : Below w.heap.size w W) => impl_elementOf.calls A1 c1 l1 W (Kd.C_below hr1 hb) (by omega) k1)
    have HT := Aside0.mk (fun W => impl_element_minus.calls (bval l0) (bval l1) W p0 p1)
    have HB := Aside0.mk (fun W => impl_element_bytes.calls ((bval l0 + PP - bval l1) % PP) W)
    clear ho k0 k1 p0 p1 hPB hr0 hc0 hr1 hc1 e0 e1
    generalize (bval l0 + PP - bval l1) % PP = r at *
    generalize bval l0 = x at *
    generalize bval l1 = y at *
    have B0 := Aside0.mk (fun t => below_alloc (Below.refl w.heap.size w) (.cells #[.slice A0 l0.length c0, .slice A1 l1.length c1] t))
    go_enter Try.func26, Try.ntmps26
    go_wp2_with (first
      | ((with_reducible refine (HC.out _).mono ?_); rintro e w1 ⟨rfl, hb⟩; have B1 := Aside0.mk (below_step (B0.out _) hb); clear hb)
      | ((with_reducible refine (HX.out _ B1.out).mono ?_); rintro e w2 ⟨rfl, hb⟩; have B2 := Aside0.mk (below_step B1.out hb); clear hb)
      | ((with_reducible refine (HY.out _ B2.out).mono ?_); rintro e w3 ⟨rfl, hb⟩; have B3 := Aside0.mk (below_step B2.out hb); clear hb)
      | ((with_reducible refine (HT.out _).mono ?_); rintro e w4 ⟨rfl, hb⟩; have B4 := Aside0.mk (below_step B3.out hb); clear hb)
      | ((with_reducible refine (HB.out _).mono ?_); rintro e w5 ⟨v, rfl, hR, hb⟩; have HR := Aside0.mk (Kd.R_lower hR (below_size B4.out)); have B5 := Aside0.mk (below_step B4.out hb); clear hb hR))
    go_ret2
    exact ⟨_, rfl, HR.out, B5.out⟩
  · rw [if_neg ho] at h; cases h


/-! ### spec_l05Carry: function 81 -/
set_option maxHeartbeats 400000 in
set_option maxRecDepth 100000 in
theorem spec_l05Carry.calls (xs : List Int) (w : World) (hb : Bd xs) (hl : xs.length = 16) :
    Calls Try.prog 81 #[.agg (arr .i64 xs)] w fun e w' => e = .returned (.agg (arr .i64 (carN xs 3))) ∧ Below w.heap.size w w' := by
  have HB := Aside0.mk hb
  have HL := Aside0.mk hl
  clear hb hl
  go_enter Try.func81, Try.ntmps81
  go_wp2
  go_loopg [3, 4, 5, 6] 3 (fun gg v3 _ _ _ wr => ∃ n : Nat, n ≤ 3 ∧ 3 - n ≤ gg ∧ v3 = .int .i64 n ∧ Aside0 (St w [⟨40, .i64, carN xs n⟩, ⟨40, .i64, z16⟩] wr))
  case atStart =>
    exact ⟨0, by omega, by omega, rfl, ⟨((St.start w).push rfl 40 .i64 xs).push (World.size_alloc ..) 40 .i64 z16⟩⟩
  case round =>
    obtain ⟨n, hn, hg, rfl, S⟩ := hrel
    by_cases hlt : n < 3
    · have hlti : (n : Int) < 3 := by omega
      have hbd := carN_bd xs HB.out HL.out n
      have EN := Aside0.mk (show carN xs (n + 1) = carR (carN xs n) from rfl)
      generalize carN xs n = ys at *
      have YB := Aside0.mk hbd.1
      have YL := Aside0.mk hbd.2
      clear hbd
      go_wp2
      go_loopg [4, 5, 6] 16 (fun gg2 v4 v5 _ wr2 => ∃ k : Nat, k ≤ 16 ∧ 16 - k ≤ gg2 ∧ v5 = .int .i64 k ∧ v4 = .int .i64 (carS ys k).2 ∧ Aside0 (St w [⟨40, .i64, (carS ys k).1⟩, ⟨40, .i64, z16⟩] wr2))
      case atStart => exact ⟨0, by omega, by omega, rfl, rfl, S⟩
      case round =>
        obtain ⟨k, hk, hg2, rfl, rfl, S2⟩ := hrel
        have hcb := carS_bd ys YB.out k
        have hkb := hcb.1 k
        by_cases hlt2 : k < 16
        · have hlti2 : (k : Int) < 16 := by omega
          have hc1 := S2.out.cell 0 rfl k (by have := YL.out; rw [carS_length]; omega)
          have hf1 := blk_frozen (S2.out.blk 0 rfl) k
          rw [Nat.add_zero] at hc1 hf1
          have P := Aside0.mk (S2.out.set 0 rfl k (((carS ys k).1.getD k 0 + (carS ys k).2) - ((carS ys k).1.getD k 0 + (carS ys k).2) / 65536 * 65536))
          have EQ := Aside0.mk (show carS ys (k + 1) = ((carS ys k).1.set k (((carS ys k).1.getD k 0 + (carS ys k).2) - ((carS ys k).1.getD k 0 + (carS ys k).2) / 65536 * 65536), ((carS ys k).1.getD k 0 + (carS ys k).2) / 65536) from rfl)
          have a1 := hkb.1
          have a2 := hkb.2
          have a3 := hcb.2.1
          have a4 := hcb.2.2
          clear hcb hkb
          generalize (carS ys k).1.getD k 0 = a at *
          generalize (carS ys k).2 = c at *
          have b1 : -4503737066323969 ≤ a + c := by omega
          have b2 : a + c ≤ 4503737066323969 := by omega
          have q1 : -68721573900 ≤ (a + c) / 65536 := by omega
          have q2 : (a + c) / 65536 ≤ 68721573900 := by omega
          go_wp2
          go_roundg (16 - (k + 1))
          case measure => omega
          case rel => refine ⟨k + 1, by omega, by omega, by go_num, ?_, by rw [EQ.out]; exact P⟩; rw [EQ.out]
        · obtain rfl : k = 16 := by omega
          have hneg : ¬ ((16 : Nat) : Int) < 16 := by omega
          have h0 := hcb.1 0
          have hc1 := S2.out.cell 0 rfl 0 (by have := YL.out; rw [carS_length]; omega)
          have hf1 := blk_frozen (S2.out.blk 0 rfl) 0
          rw [Nat.add_zero] at hc1 hf1
          have P := Aside0.mk (S2.out.set 0 rfl 0 ((carS ys 16).1.getD 0 0 + 38 * (carS ys 16).2))
          have EQ := Aside0.mk (show carR ys = (carS ys 16).1.set 0 ((carS ys 16).1.getD 0 0 + 38 * (carS ys 16).2) from rfl)
          have a1 := h0.1
          have a2 := h0.2
          have a3 := hcb.2.1
          have a4 := hcb.2.2
          clear hcb hkb h0
          generalize (carS ys 16).1.getD 0 0 = a at *
          generalize (carS ys 16).2 = c at *
          go_wp2
          go_roundg (3 - (n + 1))
          case measure => omega
          case rel => exact ⟨n + 1, by omega, by omega, by go_num, by rw [EN.out, EQ.out]; exact P⟩
    · obtain rfl : n = 3 := by omega
      have hneg : ¬ ((3 : Nat) : Int) < 3 := by omega
      have B0 := Aside0.mk (S.out.blk 0 rfl)
      have B1 := Aside0.mk (S.out.blk 1 rfl)
      have L := Aside0.mk (carN_bd xs HB.out HL.out 3).2
      go_wp2_with (first
        | ((with_reducible refine gate_dst (N := 34) rfl ?_); refine ld_arr rfl 40 (.tmp 1) rfl w.heap.size rfl B0.out Try.underlying40 (m := 16) (by kernel_rfl) L.out ?_)
        | (refine st_arr rfl 40 (.tmp 2) (.tmp 34) rfl (w.heap.size + 1) (xs := carN xs 3) rfl rfl B1.out (m := 16) (by kernel_rfl) L.out (by rw [L.out]; rfl) ?_; intro w' h1 h2 h4 h3; have H1 := Aside0.mk h1; have H3 := Aside0.mk h3; clear h1 h2 h3 h4))
      exact bodyPost_ret (results_cell_row Try.results81 _ _ (w.heap.size + 1) 40 _ (0, 0) _ rfl H1.out Try.underlying40 rfl (by rw [arr_size, L.out]; kernel_rfl)) rfl ⟨rfl, H3.out _ _ S.out.below (by omega)⟩


/-! ### spec_l05Least: function 80 -/
set_option maxHeartbeats 4000000 in
set_option maxRecDepth 100000 in
theorem spec_l05Least.calls (xs : List Int) (w : World) (hb : Bd xs) (hl : xs.length = 16) :
    Calls Try.prog 80 #[.agg (arr .i64 xs)] w fun e w' => e = .returned (.agg (arr .i64 (lstN xs 2))) ∧ Below w.heap.size w w' := by
  have HB := Aside0.mk hb
  have HL := Aside0.mk hl
  have S0 := Aside0.mk (((St.start w).push rfl 40 .i64 xs).push (World.size_alloc ..) 40 .i64 z16)
  have LC := Aside0.mk (carN_bd xs hb hl 3).2
  clear hb hl
  go_enter Try.func80, Try.ntmps80
  go_wp2_with (first
    | ((with_reducible refine gate_dst (N := 8) rfl ?_); refine ld_arr rfl 40 (.tmp 1) rfl w.heap.size rfl (S0.out.blk 0 rfl) Try.underlying40 (m := 16) (by kernel_rfl) HL.out ?_)
    | ((with_reducible refine (spec_l05Carry.calls xs _ HB.out HL.out).mono ?_); rintro e w1 ⟨rfl, hb⟩; have S1 := Aside0.mk (S0.out.step hb); clear hb S0)
    | (refine st_arr rfl 40 (.tmp 1) (.tmp 9) rfl w.heap.size (xs := carN xs 3) rfl rfl (S1.out.blk 0 rfl) (m := 16) (by kernel_rfl) LC.out (by rw [LC.out, HL.out]) ?_; intro w2 h1 h2 h4 h3; have S2 := Aside0.mk (S1.out.row 0 rfl h1 h2 h3); clear h1 h2 h3 h4 S1))
  go_loopg [3, 4, 5, 6, 7] 2 (fun gg v3 _ _ _ _ wr => ∃ n : Nat, n ≤ 2 ∧ 2 - n ≤ gg ∧ v3 = .int .i64 n ∧ Aside0 (St w [⟨40, .i64, lstN xs n⟩, ⟨40, .i64, z16⟩] wr))
  case atStart => exact ⟨0, by omega, by omega, rfl, S2⟩
  case round =>
    obtain ⟨n, hn, hg, rfl, S⟩ := hrel
    obtain ⟨W0, e0⟩ : ∃ W0, W0 = wr := ⟨_, rfl⟩
    subst e0
    by_cases hlt : n < 2
    · have hlti : (n : Int) < 2 := by omega
      have hbs := lstN_bs xs HB.out HL.out n
      have EN := Aside0.mk (show lstN xs (n + 1) = lstR (lstN xs n) from rfl)
      generalize lstN xs n = ys at *
      have YL := Aside0.mk hbs.2
      have ZB := Aside0.mk (lstB_bd ys hbs.1 hbs.2)
      have y1 := (hbs.1 0).1
      have y2 := (hbs.1 0).2
      have EB := Aside0.mk (show lstB ys = ys.set 0 (ys.getD 0 0 + 19) from rfl)
      have ER := Aside0.mk (show lstR ys = (if 32768 ≤ (carS (lstB ys) 16).1.getD 15 0 ∨ 0 < (carS (lstB ys) 16).2 then
    (if 0 < (carS (lstB ys) 16).2 then ((carS (lstB ys) 16).1.set 15 ((carS (lstB ys) 16).1.getD 15 0 - 32768)).set 15 ((carS (lstB ys) 16).1.getD 15 0 - 32768 + 65536) else (carS (lstB ys) 16).1.set 15 ((carS (lstB ys) 16).1.getD 15 0 - 32768))
  else ys) from rfl)
      clear hbs
      obtain ⟨y, hy⟩ : ∃ y, y = ys.getD 0 0 := ⟨_, rfl⟩
      rw [← hy] at y1 y2 EB
      have HY := Aside0.mk hy
      clear hy
      have SZ := Aside0.mk S.out.size
      go_wp2_with (first
        | ((with_reducible refine gate_dst (N := 14) rfl ?_); refine ld_arr rfl 40 (.tmp 1) rfl w.heap.size rfl (S.out.blk 0 rfl) Try.underlying40 (m := 16) (by kernel_rfl) YL.out ?_)
        | (refine st_arr rfl 40 (.tmp 4) (.tmp 14) rfl W0.heap.size (xs := ys) rfl rfl (blk_new W0 (.cells (arr .i64 z16) 40)) (m := 16) (by kernel_rfl) YL.out (by rw [YL.out]; rfl) ?_; intro w2 h1 h2 h4 h3; have S2 := Aside0.mk (St.other (S.out.alloc (.cells (arr .i64 z16) 40)) h2 h3 (by exact SZ.out)); have G := Aside0.mk h1; have hc1 := blk_get h1 0 (by rw [YL.out]; omega); rw [← HY.out] at hc1; have hf1 := blk_frozen h1 0; have S3 := Aside0.mk (S2.out.far W0.heap.size SZ.out 0 (.int .i64 (y + 19))); have G3 := Aside0.mk (blk_upd h1 0 (y + 19)); clear h1 h2 h3 h4 S2 G))
      have zb := ZB.out
      generalize lstB ys = zs at *
      go_loopg [5, 6, 7] 16 (fun gg2 v5 v6 _ wr2 => ∃ k : Nat, k ≤ 16 ∧ 16 - k ≤ gg2 ∧ v6 = .int .i64 k ∧ v5 = .int .i64 (carS zs k).2 ∧ Aside0 (St w [⟨40, .i64, ys⟩, ⟨40, .i64, z16⟩] wr2) ∧ Aside0 (wr2.heap[W0.heap.size]? = some (.cells (arr .i64 (carS zs k).1) 40 (0, 0))))
      case atStart => exact ⟨0, by omega, by omega, rfl, rfl, S3, by have := G3.out; rw [← EB.out] at this; exact ⟨this⟩⟩
      case round =>
        obtain ⟨k, hk, hg2, rfl, rfl, S4, G4⟩ := hrel
        have hcb := carS_bd zs zb.1 k
        have hkb := hcb.1 k
        by_cases hlt2 : k < 16
        · have hlti2 : (k : Int) < 16 := by omega
          have hc1 := blk_get G4.out k (by rw [carS_length, zb.2]; omega)
          have hf1 := blk_frozen G4.out k
          have P := Aside0.mk (S4.out.far W0.heap.size SZ.out k (.int .i64 (((carS zs k).1.getD k 0 + (carS zs k).2) - ((carS zs k).1.getD k 0 + (carS zs k).2) / 65536 * 65536)))
          have PG := Aside0.mk (blk_upd G4.out k (((carS zs k).1.getD k 0 + (carS zs k).2) - ((carS zs k).1.getD k 0 + (carS zs k).2) / 65536 * 65536))
          have EQ := Aside0.mk (show carS zs (k + 1) = ((carS zs k).1.set k (((carS zs k).1.getD k 0 + (carS zs k).2) - ((carS zs k).1.getD k 0 + (carS zs k).2) / 65536 * 65536), ((carS zs k).1.getD k 0 + (carS zs k).2) / 65536) from rfl)
          have a1 := hkb.1
          have a2 := hkb.2
          have a3 := hcb.2.1
          have a4 := hcb.2.2
          clear hcb hkb zb
          generalize (carS zs k).1.getD k 0 = a at *
          generalize (carS zs k).2 = c at *
          have b1 : -4503737066323969 ≤ a + c := by omega
          have b2 : a + c ≤ 4503737066323969 := by omega
          have q1 : -68721573900 ≤ (a + c) / 65536 := by omega
          have q2 : (a + c) / 65536 ≤ 68721573900 := by omega
          go_wp2
          go_roundg (16 - (k + 1))
          case measure => omega
          case rel => refine ⟨k + 1, by omega, by omega, by go_num, ?_, P, by rw [EQ.out]; exact PG⟩; rw [EQ.out]
        · obtain rfl : k = 16 := by omega
          have hneg : ¬ ((16 : Nat) : Int) < 16 := by omega
          have hlo := carS_lo zs zb.2 16 (by omega) 15 (by omega)
          have hc1 := blk_get G4.out 15 (by rw [carS_length, zb.2]; omega)
          have hf1 := blk_frozen G4.out 15
          have L := Aside0.mk (show (carS zs 16).1.length = 16 by rw [carS_length, zb.2])
          have a1 := hlo.1
          have a2 := hlo.2
          clear hcb hkb hlo zb
          generalize carS zs 16 = p at *
          obtain ⟨ps, c⟩ := p
          simp only at *
          have P1 := Aside0.mk (S4.out.far W0.heap.size SZ.out 15 (.int .i64 (ps.getD 15 0 - 32768)))
          have Q1 := Aside0.mk (blk_upd G4.out 15 (ps.getD 15 0 - 32768))
          have P2 := Aside0.mk (P1.out.far W0.heap.size SZ.out 15 (.int .i64 (ps.getD 15 0 - 32768 + 65536)))
          have Q2 := Aside0.mk (blk_upd Q1.out 15 (ps.getD 15 0 - 32768 + 65536))
          have L1 := Aside0.mk (show (ps.set 15 (ps.getD 15 0 - 32768)).length = 16 by rw [List.length_set, L.out])
          have L2 := Aside0.mk (show ((ps.set 15 (ps.getD 15 0 - 32768)).set 15 (ps.getD 15 0 - 32768 + 65536)).length = 16 by rw [List.length_set, List.length_set, L.out])
          generalize ps.getD 15 0 = a at *
          by_cases c0 : 0 < c
          · have E2 := Aside0.mk (ER.out.trans (by rw [if_pos (Or.inr c0), if_pos c0]))
            by_cases c1 : 32768 ≤ a
            all_goals
              go_wp2_with (first
                | ((with_reducible refine gate_dst (N := 53) rfl ?_); refine ld_arr rfl 40 (.tmp 4) rfl W0.heap.size rfl Q2.out Try.underlying40 (m := 16) (by kernel_rfl) L2.out ?_)
                | (refine st_arr rfl 40 (.tmp 1) (.tmp 53) rfl w.heap.size (xs := (ps.set 15 (a - 32768)).set 15 (a - 32768 + 65536)) rfl rfl (P2.out.blk 0 rfl) (m := 16) (by kernel_rfl) L2.out (by rw [YL.out, L2.out]) ?_; intro w2 h1 h2 h4 h3; have S5 := Aside0.mk (P2.out.row 0 rfl h1 h2 h3); clear h1 h2 h3 h4))
              go_roundg (2 - (n + 1))
              case measure => omega
              case rel => exact ⟨n + 1, by omega, by omega, by go_num, by rw [EN.out, E2.out]; exact S5⟩
          · by_cases c1 : 32768 ≤ a
            · have E2 := Aside0.mk (ER.out.trans (by rw [if_pos (Or.inl c1), if_neg c0]))
              go_wp2_with (first
                | ((with_reducible refine gate_dst (N := 53) rfl ?_); refine ld_arr rfl 40 (.tmp 4) rfl W0.heap.size rfl Q1.out Try.underlying40 (m := 16) (by kernel_rfl) L1.out ?_)
                | (refine st_arr rfl 40 (.tmp 1) (.tmp 53) rfl w.heap.size (xs := ps.set 15 (a - 32768)) rfl rfl (P1.out.blk 0 rfl) (m := 16) (by kernel_rfl) L1.out (by rw [YL.out, L1.out]) ?_; intro w2 h1 h2 h4 h3; have S5 := Aside0.mk (P1.out.row 0 rfl h1 h2 h3); clear h1 h2 h3 h4))
              go_roundg (2 - (n + 1))
              case measure => omega
              case rel => exact ⟨n + 1, by omega, by omega, by go_num, by rw [EN.out, E2.out]; exact S5⟩
            · have E2 := Aside0.mk (ER.out.trans (by rw [if_neg (by omega)]))
              go_wp2
              go_roundg (2 - (n + 1))
              case measure => omega
              case rel => exact ⟨n + 1, by omega, by omega, by go_num, by rw [EN.out, E2.out]; exact S4⟩
    · obtain rfl : n = 2 := by omega
      have hneg : ¬ ((2 : Nat) : Int) < 2 := by omega
      have B0 := Aside0.mk (S.out.blk 0 rfl)
      have B1 := Aside0.mk (S.out.blk 1 rfl)
      have L := Aside0.mk (lstN_bs xs HB.out HL.out 2).2
      go_wp2_with (first
        | ((with_reducible refine gate_dst (N := 54) rfl ?_); refine ld_arr rfl 40 (.tmp 1) rfl w.heap.size rfl B0.out Try.underlying40 (m := 16) (by kernel_rfl) L.out ?_)
        | (refine st_arr rfl 40 (.tmp 2) (.tmp 54) rfl (w.heap.size + 1) (xs := lstN xs 2) rfl rfl B1.out (m := 16) (by kernel_rfl) L.out (by rw [L.out]; rfl) ?_; intro w' h1 h2 h4 h3; have H1 := Aside0.mk h1; have H3 := Aside0.mk h3; clear h1 h2 h3 h4))
      exact bodyPost_ret (results_cell_row Try.results80 _ _ (w.heap.size + 1) 40 _ (0, 0) _ rfl H1.out Try.underlying40 rfl (by rw [arr_size, L.out]; kernel_rfl)) rfl ⟨rfl, H3.out _ _ S.out.below (by omega)⟩


/-! ### spec_l05Bytes: function 46 -/
set_option maxHeartbeats 4000000 in
set_option maxRecDepth 100000 in
theorem spec_l05Bytes.calls (xs : List Int) (w : World) (hb : Bd xs) (hl : xs.length = 16) (ho : Ok 65536 (lstN xs 2)) :
    Calls Try.prog 46 #[.agg (arr .i64 xs)] w fun e w' => ∃ v0_ : Value, e = .returned (v0_) ∧ Kd.R (Kd.int .u8) 5 w' w.heap.size (fun _ => True) v0_ (bysS (lstN xs 2) 16) ∧ Below w.heap.size w w' := by
  have HL := Aside0.mk hl
  have S0 := Aside0.mk ((St.start w).push rfl 40 .i64 xs)
  have lc := (lstN_bs xs hb hl 2).2
  have hc := fun W => spec_l05Least.calls xs W hb hl
  clear hb hl
  generalize lstN xs 2 = ys at *
  have LC := Aside0.mk lc
  have HO := Aside0.mk ho
  have HC := Aside0.mk hc
  clear lc hc ho
  go_enter Try.func46, Try.ntmps46
  go_wp2_with (first
    | ((with_reducible refine gate_dst (N := 5) rfl ?_); refine ld_arr rfl 40 (.tmp 1) rfl w.heap.size rfl (S0.out.blk 0 rfl) Try.underlying40 (m := 16) (by kernel_rfl) HL.out ?_)
    | ((with_reducible refine (HC.out _).mono ?_); rintro e w1 ⟨rfl, hb⟩; have S1 := Aside0.mk (S0.out.step hb); clear hb S0)
    | (refine st_arr rfl 40 (.tmp 1) (.tmp 6) rfl w.heap.size (xs := ys) rfl rfl (S1.out.blk 0 rfl) (m := 16) (by kernel_rfl) LC.out (by rw [LC.out, HL.out]) ?_; intro w2 h1 h2 h4 h3; have S2 := Aside0.mk (S1.out.row 0 rfl h1 h2 h3); clear h1 h2 h3 h4 S1))
  go_loopg [3, 4] 16 (fun gg v3 v4 wr => ∃ k : Nat, k ≤ 16 ∧ 16 - k ≤ gg ∧ v4 = .int .i64 k ∧ Aside0 (St w [⟨40, .i64, ys⟩] wr) ∧ Aside0 (Kd.R (Kd.int .u8) 5 wr (w.heap.size + 1) (fun _ => True) v3 (bysS ys k)))
  case atStart =>
    exact ⟨0, by omega, by omega, rfl, ⟨S2.out.alloc _⟩, ⟨R_fresh _ _ _ S2.out.size⟩⟩
  case round =>
    obtain ⟨k, hk, hg, rfl, S, HV⟩ := hrel
    obtain ⟨Av, cv, ev⟩ := Kd.R_slice HV.out
    rw [bysS_length] at ev
    subst ev
    by_cases hlt : k < 16
    · have hlti : (k : Int) < 16 := by omega
      have hc1 := S.out.cell 0 rfl k (by rw [LC.out]; omega)
      rw [Nat.add_zero] at hc1
      have ha := getD_range HO.out k (by rw [LC.out]; omega)
      have a0 := ha.1
      have a1 : ys.getD k 0 < 65536 := ha.2
      have HL2 := Aside0.mk (bysS_length ys k)
      have BW := Aside0.mk (Below.refl (w.heap.size + 1) wr)
      have SZ := Aside0.mk S.out.size
      have eq : bysS ys (k + 1) = bysS ys k ++ [ys.getD k 0 % 256, ys.getD k 0 / 256] := rfl
      clear ha
      generalize ys.getD k 0 = a at *
      rw [← show IntKind.u8.wrap (a.tmod 256) = a % 256 from by rw [Int.tmod_eq_emod_of_nonneg a0, IntKind.wrap_u8]; omega, ← show IntKind.u8.wrap (wrap64 (a.tdiv 256)) = a / 256 from by rw [Int.tdiv_eq_ediv_of_nonneg a0, show wrap64 (a / 256) = a / 256 from by unfold wrap64; omega, IntKind.wrap_u8]; omega] at eq
      have EQ := Aside0.mk eq
      clear eq
      obtain ⟨W0, e0⟩ : ∃ W0, W0 = wr := ⟨_, rfl⟩
      subst e0
      have BWD := Aside0.mk (below_drew BW.out)
      have SZD := Aside0.mk (show w.heap.size + 1 ≤ W0.drew.heap.size from Nat.le_trans SZ.out (below_drew BW.out).size)
      --REG
      go_wp2
      refine start_ (n := 14) (S := fun w' => w'.cell? ⟨w.heap.size, k, none⟩ = some (.int .i64 a)) (ds := [11, 12]) #[false, false, false, false, false, false, false, false, false, false, false, false, false, false] (by kernel_rfl) rfl rfl (hc1) (fun hHeld => ?_)
      refine pure_ (i := 0) (N := some 12) (v := ?_) (a' := ?_) #[true, false, false, false, false, false, false, false, false, false, false, false, false, false] rfl rfl (by kernel_rfl) (fun _ _ _ h => h) (Or.inl ⟨by rfl, ?_⟩) ?_ ?_
      rotate_left
      · intro w'
        go_simp
        with_reducible rfl
      rotate_left
      · simp only [Act.put, List.setIfInBounds_toArray, List.set_cons_zero, List.set_cons_succ, i64_w, i32_w]
        rfl
      refine pure_ (i := 1) (N := some 13) (v := ?_) (a' := ?_) #[true, true, false, false, false, false, false, false, false, false, false, false, false, false] rfl rfl (by kernel_rfl) (fun _ _ _ h => h) (Or.inl ⟨by rfl, ?_⟩) ?_ ?_
      rotate_left
      · intro w'
        go_simp
        with_reducible rfl
      rotate_left
      · simp only [Act.put, List.setIfInBounds_toArray, List.set_cons_zero, List.set_cons_succ, i64_w, i32_w]
        rfl
      refine pure_ (i := 2) (N := some 14) (v := ?_) (a' := ?_) #[true, true, true, false, false, false, false, false, false, false, false, false, false, false] rfl rfl (by kernel_rfl) (fun _ _ _ h => h) (Or.inl ⟨by rfl, ?_⟩) ?_ ?_
      rotate_left
      · intro w'
        go_simp
        with_reducible rfl
      rotate_left
      · simp only [Act.put, List.setIfInBounds_toArray, List.set_cons_zero, List.set_cons_succ, i64_w, i32_w]
        rfl
      refine pure_ (i := 6) (N := some 18) (v := ?_) (a' := ?_) #[true, true, true, false, false, false, true, false, false, false, false, false, false, false] rfl rfl (by kernel_rfl) (fun _ _ _ h => h) (Or.inl ⟨by rfl, ?_⟩) ?_ ?_
      rotate_left
      · intro w'
        go_simp
        with_reducible rfl
      rotate_left
      · simp only [Act.put, List.setIfInBounds_toArray, List.set_cons_zero, List.set_cons_succ, i64_w, i32_w]
        rfl
      refine pure_ (i := 7) (N := some 19) (v := ?_) (a' := ?_) #[true, true, true, false, false, false, true, true, false, false, false, false, false, false] rfl rfl (by kernel_rfl) (fun _ _ _ h => h) (Or.inl ⟨by rfl, ?_⟩) ?_ ?_
      rotate_left
      · intro w'
        go_simp
        with_reducible rfl
      rotate_left
      · simp only [Act.put, List.setIfInBounds_toArray, List.set_cons_zero, List.set_cons_succ, i64_w, i32_w]
        rfl
      refine take_ (i := 3) (N := some 15) (v := ?_) (a' := ?_) #[true, true, true, true, false, false, true, true, false, false, false, false, false, false] rfl rfl (by kernel_rfl) (fun _ _ _ h => h) (Or.inl ⟨by rfl, ?_⟩) hHeld ?_ ?_
      rotate_left
      · intro w' s0
        go_simp
        with_reducible rfl
      rotate_left
      · simp only [Act.put, List.setIfInBounds_toArray, List.set_cons_zero, List.set_cons_succ, i64_w, i32_w]
        rfl
      refine pure_ (i := 4) (N := some 16) (v := ?_) (a' := ?_) #[true, true, true, true, true, false, true, true, false, false, false, false, false, false] rfl rfl (by kernel_rfl) (fun _ _ _ h => h) (Or.inl ⟨by rfl, ?_⟩) ?_ ?_
      rotate_left
      · intro w'
        go_simp
        with_reducible rfl
      rotate_left
      · simp only [Act.put, List.setIfInBounds_toArray, List.set_cons_zero, List.set_cons_succ, i64_w, i32_w]
        rfl
      refine pure_ (i := 5) (N := some 17) (v := ?_) (a' := ?_) #[true, true, true, true, true, true, true, true, false, false, false, false, false, false] rfl rfl (by kernel_rfl) (fun _ _ _ h => h) (Or.inl ⟨by rfl, ?_⟩) ?_ ?_
      rotate_left
      · intro w'
        go_simp
        with_reducible rfl
      rotate_left
      · simp only [Act.put, List.setIfInBounds_toArray, List.set_cons_zero, List.set_cons_succ, i64_w, i32_w]
        rfl
      refine take_ (i := 8) (N := some 20) (v := ?_) (a' := ?_) #[true, true, true, true, true, true, true, true, true, false, false, false, false, false] rfl rfl (by kernel_rfl) (fun _ _ _ h => h) (Or.inl ⟨by rfl, ?_⟩) hHeld ?_ ?_
      rotate_left
      · intro w' s0
        go_simp
        with_reducible rfl
      rotate_left
      · simp only [Act.put, List.setIfInBounds_toArray, List.set_cons_zero, List.set_cons_succ, i64_w, i32_w]
        rfl
      refine pure_ (i := 9) (N := some 21) (v := ?_) (a' := ?_) #[true, true, true, true, true, true, true, true, true, true, false, false, false, false] rfl rfl (by kernel_rfl) (fun _ _ _ h => h) (Or.inl ⟨by rfl, ?_⟩) ?_ ?_
      rotate_left
      · intro w'
        go_simp
        with_reducible rfl
      rotate_left
      · simp only [Act.put, List.setIfInBounds_toArray, List.set_cons_zero, List.set_cons_succ, i64_w, i32_w]
        rfl
      refine pure_ (i := 10) (N := some 22) (v := ?_) (a' := ?_) #[true, true, true, true, true, true, true, true, true, true, true, false, false, false] rfl rfl (by kernel_rfl) (fun _ _ _ h => h) (Or.inl ⟨by rfl, ?_⟩) ?_ ?_
      rotate_left
      · intro w'
        go_simp
        with_reducible rfl
      rotate_left
      · simp only [Act.put, List.setIfInBounds_toArray, List.set_cons_zero, List.set_cons_succ, i64_w, i32_w]
        rfl
      refine last_ (i := 11) (N := some 23) #[true, true, true, true, true, true, true, true, true, true, true, true, false, false] rfl rfl (by kernel_rfl) (by decide) (fun K hK => ?_)
      refine Kd.R_lit_step (Kd.int .u8) _ 5 (by rfl) (N := 23) rfl (xs := ([IntKind.u8.wrap (a.tmod 256), IntKind.u8.wrap (wrap64 (a.tdiv 256))] : List Int)) (inner := [.int .u8 (IntKind.u8.wrap (a.tmod 256)), .int .u8 (IntKind.u8.wrap (wrap64 (a.tdiv 256)))]) (ok := fun _ => True) (okp := fun _ => True) ?hr ?hp (fun _ hk => hk) trivial (Below.refl _ _) (Nat.le_refl _) (by simp) ?_
      case hr => first | (go_simp; done) | (go_simp; rfl)
      case hp => exact (Reps.one (show Kd.M (Kd.int .u8) _ _ _ (IntKind.u8.wrap (a.tmod 256)) [.int .u8 (IntKind.u8.wrap (a.tmod 256))] from rfl) (Reps.one (show Kd.M (Kd.int .u8) _ _ _ (IntKind.u8.wrap (wrap64 (a.tdiv 256))) [.int .u8 (IntKind.u8.wrap (wrap64 (a.tdiv 256)))] from rfl) (Reps.none _ _)))
      intro v5 w5 ho6 hb hg_ hnew_
      clear hg_ hnew_
      have n0_ := Aside0.mk (Kd.R_below (by (with_reducible repeat (first | apply Kd.R_alloc | apply Kd.R_drewN | apply Kd.R_drew)); exact HV.out) hb)
      have n1_ := Aside0.mk (Kd.R_lower (base' := w.heap.size + 1) ho6 SZD.out)
      have n2_ := Aside0.mk (below_stepB BWD.out hb SZD.out)
      clear hb HV BW
      have HV := n0_
      have HN := n1_
      have BW := n2_
      clear n0_ n1_ n2_ ho6
      obtain ⟨An, cn, en⟩ := Kd.R_slice HN.out
      rw [show ([IntKind.u8.wrap (a.tmod 256), IntKind.u8.wrap (wrap64 (a.tdiv 256))] : List Int).length = 2 from rfl] at en
      subst en
      refine hK.out _ _ ?_
      clear hK K
      refine norm_ (a' := ?_) ?_ ?_
      rotate_left
      · show Act.put _ (some 23) _ = _
        simp only [Act.put, List.setIfInBounds_toArray, List.set_cons_zero, List.set_cons_succ, i64_w, i32_w]
        rfl
      refine last_ (i := 12) (N := some 24) #[true, true, true, true, true, true, true, true, true, true, true, true, true, false] rfl rfl (by kernel_rfl) (by decide) (fun K hK => ?_)
      refine Kd.R_append_rows_step (Kd.int .u8) (w0 := W0) (w.heap.size + 1) (by rfl) (.tmp 12) (.tmp 23) 22 5 (.int .u8 0) 1 rfl Try.underlying22 info5 rfl (by decide) (by omega) (.slice Av (2 * k) cv) (bysS ys k) [IntKind.u8.wrap (a.tmod 256), IntKind.u8.wrap (wrap64 (a.tdiv 256))] _ _ _ (fun _ => True) (fun _ => False) rfl rfl (by (with_reducible repeat (first | apply Kd.R_alloc | apply Kd.R_drewN | apply Kd.R_drew)); exact HV.out) (Kd.R_reads' HN.out).2.2 (fun _ _ h => h) (fun _ h => h.elim) (fun _ _ => trivial) BW.out (Nat.le_trans SZ.out BW.out.size) (by have := HL2.out; omega) ?_
      intro v6 w6 ho hb hg_ hat
      rw [← EQ.out] at ho
      have HV2 := Aside0.mk ho
      have BW2 := Aside0.mk hb
      clear hg_ hat ho hb
      refine hK.out _ _ ?_
      clear hK K
      refine norm_ (a' := ?_) ?_ ?_
      rotate_left
      · show Act.put _ (some 24) _ = _
        simp only [Act.put, List.setIfInBounds_toArray, List.set_cons_zero, List.set_cons_succ, i64_w, i32_w]
        rfl
      refine pure_ (i := 13) (N := some 3) (v := ?_) (a' := ?_) #[true, true, true, true, true, true, true, true, true, true, true, true, true, true] rfl rfl (by kernel_rfl) (fun _ _ _ h => h) (Or.inl ⟨by rfl, ?_⟩) ?_ ?_
      rotate_left
      · intro w'
        go_simp
        with_reducible rfl
      rotate_left
      · simp only [Act.put, List.setIfInBounds_toArray, List.set_cons_zero, List.set_cons_succ, i64_w, i32_w]
        rfl
      refine done_ (by kernel_rfl) ?_

      go_wp2
      go_roundg (16 - (k + 1))
      case measure => omega
      case rel => exact ⟨k + 1, by omega, by omega, by go_num, ⟨S.out.stepB BW2.out⟩, ⟨(by (with_reducible repeat (first | apply Kd.R_alloc | apply Kd.R_drewN | apply Kd.R_drew)); exact HV2.out)⟩⟩
    · have hk16 : k = 16 := by omega
      have hneg : ¬ (k : Int) < 16 := by omega
      have HK := Aside0.mk hk16
      clear hk16 hk hlt
      go_wp2
      go_ret
      refine ⟨_, rfl, ?_, S.out.below⟩
      have h1 := Kd.R_lower HV.out (Nat.le_succ _)
      rw [congrArg (bysS ys) HK.out] at h1
      exact h1
set_option maxHeartbeats 1000000 in
set_option maxRecDepth 100000 in
theorem bytes_fe (c : Nat) (w : World) (hc : c < BB) :
    Calls Try.prog 46 #[.agg (arr .i64 (fe c))] w fun e w' => ∃ v0_ : Value, e = .returned (v0_) ∧ Kd.R (Kd.int .u8) 5 w' w.heap.size (fun _ => True) v0_ (limbs 256 32 (c % PP)) ∧ Below w.heap.size w w' := by
  have h := spec_l05Bytes.calls (fe c) w (fe_bd _) (fe_length _) (by rw [lstN_fe _ hc]; exact fe_ok _)
  rw [bys_fe _ hc] at h
  exact h


end Go.Proofs.Ytijeackkgcnbgaa.XG
