-- Written by a program of this session (xp.py over the kit's printer, with functions proved by hand). Lean checks it.
import Derived.Test.YtijeackkgcnbgaaXTx0
import Derived.Test.YtijeackkgcnbgaaXTx2
namespace Go.Proofs.Ytijeackkgcnbgaa.XT
open Go.Proofs.Ytijeackkgcnbgaa.Limb Go.Proofs.Ytijeackkgcnbgaa.Arr Go.Proofs.Ytijeackkgcnbgaa.FldA Go.Proofs.Ytijeackkgcnbgaa.FldB Go.Proofs.Ytijeackkgcnbgaa.FldC Go.Proofs.Ytijeackkgcnbgaa.FldS Go.Proofs.Ytijeackkgcnbgaa.FldP Go.Proofs.Ytijeackkgcnbgaa.FldW Go.Proofs.Ytijeackkgcnbgaa.FldM Go.Proofs.Ytijeackkgcnbgaa.FldT Go.Proofs.Ytijeackkgcnbgaa.St Go.Proofs.Ytijeackkgcnbgaa.StOps Go.Proofs.Ytijeackkgcnbgaa.StMid Go.Proofs.Ytijeackkgcnbgaa.StEq Go.Proofs.Ytijeackkgcnbgaa.StIdx
open Go.RowKit Go.Proofs.YtijeackkgcnbgaaW.PrintWords Go.Proofs.YtijeackkgcnbgaaW.PrintLast Go.Proofs.YtijeackkgcnbgaaW.PrintMore
attribute [local go_sem] max2_int min2_int max_two min_two max_three min_three max_four min_four   -- for this text's walks alone
set_option linter.unusedVariables false
set_option linter.unusedSimpArgs false

/-! ### impl_number_minus: function 84 -/
def sub64Entry : Array Value → Sem Value := fun args => do
  let (x, y, b) ← Extern.MathBitsCarry.three "Sub64" args
  pure (Extern.MathBitsCarry.pair ((x + Extern.MathBitsCarry.m64 - y - b) % Extern.MathBitsCarry.m64) (if x < y + b then 1 else 0))
theorem run_sub64 {P : Program} (x y c : Int) (hx : 0 ≤ x) (hx1 : x < 18446744073709551616) (hy : 0 ≤ y) (hy1 : y < 18446744073709551616) (hc0 : 0 ≤ c) (hc : c ≤ 1) (w : World) :
    (sub64Entry #[.int .u64 x, .int .u64 y, .int .u64 c]).run P w = .ok (.tuple #[.int .u64 ((x - y - c) % 18446744073709551616), .int .u64 (-((x - y - c) / 18446744073709551616))]) w := by
  have key : ∀ k : Nat, k ≤ 1 → (sub64Entry #[.int .u64 x, .int .u64 y, .int .u64 (k : Int)]).run P w =
      .ok (Extern.MathBitsCarry.pair ((x.toNat + Extern.MathBitsCarry.m64 - y.toNat - k) % Extern.MathBitsCarry.m64) (if x.toNat < y.toNat + k then 1 else 0)) w := by
    intro k hk
    have : k = 0 ∨ k = 1 := by omega
    rcases this with rfl | rfl <;> rfl
  obtain ⟨k, rfl⟩ := Int.eq_ofNat_of_zero_le hc0
  rw [key k (by omega)]
  obtain ⟨X, rfl⟩ := Int.eq_ofNat_of_zero_le hx
  obtain ⟨Y, rfl⟩ := Int.eq_ofNat_of_zero_le hy
  simp only [Extern.MathBitsCarry.pair, Extern.MathBitsCarry.m64, Int.toNat_natCast]
  have e1 : (Int.ofNat ((X + 2 ^ 64 - Y - k) % 2 ^ 64)) = (((X : Int) - Y - k) % 18446744073709551616) := by simp only [Int.ofNat_eq_natCast]; omega
  have e2 : (Int.ofNat (if X < Y + k then 1 else 0)) = -(((X : Int) - Y - k) / 18446744073709551616) := by
    split
    · simp only [Int.ofNat_eq_natCast]; omega
    · simp only [Int.ofNat_eq_natCast]; omega
  rw [e1, e2]
theorem sub64_calls (x y c : Int) (hx : 0 ≤ x) (hx1 : x < 18446744073709551616) (hy : 0 ≤ y) (hy1 : y < 18446744073709551616) (hc0 : 0 ≤ c) (hc : c ≤ 1) (w : World) :
   (callFunc 104 #[.int .u64 x, .int .u64 y, .int .u64 c]).run Try.prog w = .ok (.value (.tuple #[.int .u64 ((x - y - c) % 18446744073709551616), .int .u64 (-((x - y - c) / 18446744073709551616))])) w := by
  rw [run_callFunc_extern (fn := Try.f104) (e := sub64Entry) Try.func104 (by rfl) (by rfl) (by kernel_rfl) (by kernel_rfl), run_sub64 x y c hx hx1 hy hy1 hc0 hc]
  rfl

def minusS (xs ys : List Int) : Nat → List Int × Int
  | 0 => (xs, 0)
  | k + 1 => ((minusS xs ys k).1.set k (((minusS xs ys k).1.getD k 0 - ys.getD k 0 - (minusS xs ys k).2) % 18446744073709551616), -(((minusS xs ys k).1.getD k 0 - ys.getD k 0 - (minusS xs ys k).2) / 18446744073709551616))
theorem minusS_ok (xs ys : List Int) (hx : Ok P64 xs) (hy : Ok P64 ys) (lx : xs.length = 4) (ly : ys.length = 4) (k : Nat) (hk : k ≤ 4) : Ok P64 (minusS xs ys k).1 ∧ (minusS xs ys k).1.length = 4 ∧ 0 ≤ (minusS xs ys k).2 ∧ (minusS xs ys k).2 ≤ 1 := by
  induction k with
  | zero => exact ⟨hx, lx, by simp [minusS], by simp [minusS]⟩
  | succ k ih =>
    obtain ⟨h1, h2, h3, h4⟩ := ih (by omega)
    have a := getD_range h1 k (by omega)
    have b := getD_range hy k (by omega)
    simp only [P64] at a b
    refine ⟨ok_set h1 k _ (by omega) (by simp only [P64]; omega), by simp [minusS, h2], by simp only [minusS]; omega, by simp only [minusS]; omega⟩
theorem minusS_val (x y : Nat) : (minusS (num x) (num y) 4).1 = num (x % P64 ^ 4 + P64 ^ 4 - y % P64 ^ 4) ∧ (minusS (num x) (num y) 4).2 = (if x % P64 ^ 4 < y % P64 ^ 4 then (1 : Int) else 0) := by
  have hx := num_val x
  have hy := num_val y
  obtain ⟨o1, o2, o3, o4⟩ := minusS_ok (num x) (num y) (num_ok x) (num_ok y) (num_length x) (num_length y) 4 (by omega)
  have hv : lval P64 (minusS (num x) (num y) 4).1 - (P64 : Int) ^ 4 * (minusS (num x) (num y) 4).2 = lval P64 (num x) - lval P64 (num y) := by
    have lx := num_length x
    have ly := num_length y
    revert lx ly
    generalize num x = xs
    generalize num y = ys
    intro lx ly
    match xs, ys, lx, ly with
    | [a0, a1, a2, a3], [b0, b1, b2, b3], _, _ =>
      simp only [minusS, lval, P64, List.set_cons_succ, List.set_cons_zero, List.getD_cons_succ, List.getD_cons_zero]
      omega
  have hM : (P64 : Int) ^ 4 = ((P64 ^ 4 : Nat) : Int) := by simp
  rw [hx, hy, hM] at hv
  have hlt : lval P64 (minusS (num x) (num y) 4).1 < ((P64 ^ 4 : Nat) : Int) := by
    have h := lval_limbs P64 (by decide) 4 (lval P64 (minusS (num x) (num y) 4).1).toNat
    have h2 := limbs_lval P64 (by decide) _ o1
    rw [o2] at h2
    rw [h2] at h
    have := Nat.mod_lt (lval P64 (minusS (num x) (num y) 4).1).toNat (show 0 < P64 ^ 4 by decide)
    omega
  have h0 := lval_nonneg P64 _ o1
  have hMp : P64 ^ 4 = 115792089237316195423570985008687907853269984665640564039457584007913129639936 := by decide
  rw [hMp] at hv hlt ⊢
  have hxl := Nat.mod_lt x (show 0 < 115792089237316195423570985008687907853269984665640564039457584007913129639936 by decide)
  have hyl := Nat.mod_lt y (show 0 < 115792089237316195423570985008687907853269984665640564039457584007913129639936 by decide)
  have e2 : (minusS (num x) (num y) 4).2 = (if x % 115792089237316195423570985008687907853269984665640564039457584007913129639936 < y % 115792089237316195423570985008687907853269984665640564039457584007913129639936 then (1 : Int) else 0) := by
    split <;> omega
  refine ⟨eq_num o1 o2 (x % P64 ^ 4 + P64 ^ 4 - y % P64 ^ 4) ?_, e2⟩
  rw [hMp]
  omega

set_option maxHeartbeats 2000000 in
theorem impl_number_minus.calls (x y : Nat) (w : World) :
    Calls Try.prog 84 #[.agg (arr .u64 (num x)), .agg (arr .u64 (num y))] w fun e w' => e = .returned (.tuple #[.agg (arr .u64 (num (x % P64 ^ 4 + P64 ^ 4 - y % P64 ^ 4))), .int .u64 (if x % P64 ^ 4 < y % P64 ^ 4 then (1 : Int) else 0)]) ∧ Below w.heap.size w w' := by
  obtain ⟨V1, V2⟩ := minusS_val x y
  rw [← V1, ← V2]
  clear V1 V2
  obtain ⟨xs, hxs⟩ : ∃ l, l = num x := ⟨_, rfl⟩
  obtain ⟨ys, hys⟩ : ∃ l, l = num y := ⟨_, rfl⟩
  have HX := Aside0.mk (hxs ▸ num_length x)
  have HY := Aside0.mk (hys ▸ num_length y)
  have UX := Aside0.mk (hxs ▸ num_ok x)
  have UY := Aside0.mk (hys ▸ num_ok y)
  rw [← hxs, ← hys]
  clear hxs hys
  go_enter Try.func84, Try.ntmps84
  go_wp2
  go_loopg [6, 7, 8] 4 (fun gg v6 _ v8 wr => ∃ k : Nat, k ≤ 4 ∧ 4 - k ≤ gg ∧ v8 = .int .i64 k ∧ v6 = .int .u64 (minusS xs ys k).2 ∧ Aside0 (wr.heap[w.heap.size]? = some (.cells (arr .u64 (minusS xs ys k).1) 36 (0, 0))) ∧ Aside0 (wr.heap[w.heap.size + 1]? = some (.cells (arr .u64 ys) 36 (0, 0))) ∧ Aside0 (wr.heap[w.heap.size + 2]? = some (.cells (arr .u64 [0, 0, 0, 0]) 36 (0, 0))) ∧ Aside0 (Below w.heap.size w wr))
  case atStart =>
    have b1 : Below w.heap.size w (w.alloc (.cells (arr .u64 xs) 36)) := below_alloc (Below.refl _ _) _
    have b2 := below_alloc b1 (.cells (arr .u64 ys) 36)
    have b3 := below_alloc b2 (.cells (arr .u64 [0, 0, 0, 0]) 36)
    refine ⟨0, by omega, by omega, rfl, rfl, ⟨blk_alloc (blk_alloc (blk_new _ _) _) _⟩, ⟨?_⟩, ⟨?_⟩, ⟨b3⟩⟩
    · have := blk_new (w.alloc (.cells (arr .u64 xs) 36)) (.cells (arr .u64 ys) 36)
      rw [World.size_alloc] at this
      exact blk_alloc this _
    · have := blk_new ((w.alloc (.cells (arr .u64 xs) 36)).alloc (.cells (arr .u64 ys) 36)) (.cells (arr .u64 [0, 0, 0, 0]) 36)
      rw [World.size_alloc, World.size_alloc] at this
      exact this
  case round =>
    obtain ⟨k, hk, hg, rfl, rfl, B0, B1, B2, HB⟩ := hrel
    obtain ⟨o1, o2, o3, o4⟩ := minusS_ok xs ys UX.out UY.out HX.out HY.out k hk
    by_cases hlt : k < 4
    · have hlti : (k : Int) < 4 := by omega
      have hc1 := blk_get B0.out k (by omega)
      have hc2 := blk_get B1.out k (by have := HY.out; omega)
      have hf1 := blk_frozen B0.out k
      have a := getD_range o1 k (by omega)
      have b := getD_range UY.out k (by have := HY.out; omega)
      have hadd := fun W => sub64_calls _ _ _ a.1 a.2 b.1 b.2 o3 o4 W
      have P0 := Aside0.mk (blk_upd B0.out k (((minusS xs ys k).1.getD k 0 - ys.getD k 0 - (minusS xs ys k).2) % 18446744073709551616))
      have EQ := Aside0.mk (show minusS xs ys (k + 1) = ((minusS xs ys k).1.set k (((minusS xs ys k).1.getD k 0 - ys.getD k 0 - (minusS xs ys k).2) % 18446744073709551616), -(((minusS xs ys k).1.getD k 0 - ys.getD k 0 - (minusS xs ys k).2) / 18446744073709551616)) from rfl)
      clear o1 o2 o3 o4 a b
      generalize (minusS xs ys k).1.getD k 0 = x at *
      generalize ys.getD k 0 = y at *
      have PB := Aside0.mk (below_set (j := k) (v := .int .u64 ((x - y - (minusS xs ys k).2) % 18446744073709551616)) HB.out (Nat.le_refl _))
      go_wp2
      go_region
      go_wp2
      go_roundg (4 - (k + 1))
      case measure => omega
      case rel =>
        exact ⟨k + 1, by omega, by omega, by go_num, by rw [EQ.out], by rw [EQ.out]; exact ⟨blk_drew P0.out⟩, ⟨blk_drew (blk_far B1.out (by simp) _)⟩, ⟨blk_drew (blk_far B2.out (by simp) _)⟩, ⟨below_drew PB.out⟩⟩
    · obtain rfl : k = 4 := by omega
      have hneg : ¬ ((4 : Nat) : Int) < 4 := by omega
      have L := Aside0.mk o2
      clear o1 o2 o3 o4
      go_wp2_with (first
        | ((with_reducible refine gate_dst (N := 25) rfl ?_); refine ld_arr rfl 36 (.tmp 2) rfl w.heap.size rfl B0.out Try.underlying36 (m := 4) (by kernel_rfl) L.out ?_)
        | (refine st_arr rfl 36 (.tmp 4) (.tmp 25) rfl (w.heap.size + 2) (xs := (minusS xs ys 4).1) rfl rfl B2.out (m := 4) (by kernel_rfl) L.out (by rw [L.out]; rfl) ?_; intro w' h1 h2 h4 h3; have H1 := Aside0.mk h1; have H3 := Aside0.mk h3; clear h1 h2 h3 h4))
      exact bodyPost_ret (results_ct Try.results84 _ _ (w.heap.size + 2) 36 _ (0, 0) _ rfl H1.out Try.underlying36 rfl (by rw [arr_size, L.out]; kernel_rfl)) rfl ⟨rfl, H3.out _ _ HB.out (by omega)⟩


/-! ### impl_number_reduced: function 83 -/
set_option maxHeartbeats 1000000 in
set_option maxRecDepth 100000 in
theorem impl_number_reduced.calls (x : Nat) (w : World) :
    Calls Try.prog 83 #[.agg (arr .u64 (num x))] w fun e w' => e = .returned (.agg (arr .u64 (num (x % BB % PP)))) ∧ Below w.heap.size w w' := by
  rw [← num_mod x]
  have hx := Nat.mod_lt x (show 0 < BB by decide)
  generalize x % BB = x at *
  go_enter Try.func83, Try.ntmps83
  go_wp2
  go_loopg [] 2 (fun gg wr => ∃ y : Nat, y < BB ∧ y % PP = x % PP ∧ y / PP ≤ gg ∧ Aside0 (St w [⟨36, .u64, num y⟩, ⟨44, .u64, z4⟩] wr))
  case atStart => exact ⟨x, hx, rfl, by rw [PP_eq]; rw [BB_eq] at hx; omega, ⟨((St.start w).push rfl 36 .u64 (num x)).push (World.size_alloc ..) 44 .u64 z4⟩⟩
  case round =>
    obtain ⟨y, hy, hm, hg, S⟩ := hrel
    have hb4 : P64 ^ 4 = BB := by decide
    have hpb : PP < BB := by decide
    by_cases hp : y < PP
    · have HL : Aside0 (∀ W, Calls Try.prog 76 #[.agg (arr .u64 (num y)), .agg (arr .u64 (num PP))] W fun e w' => e = .returned (.bool true) ∧ Below W.heap.size W w') := ⟨fun W => by
        have h := impl_number_less.calls y PP W
        rw [hb4, Nat.mod_eq_of_lt hy, Nat.mod_eq_of_lt hpb, decide_eq_true hp] at h
        exact h⟩
      have EY := Aside0.mk (show y = x % PP by rw [← hm, Nat.mod_eq_of_lt hp])
      clear hm hb4 hpb hp hy
      go_wp2
      refine start_ (n := 4) (S := fun w' => St w [⟨36, .u64, num y⟩, ⟨44, .u64, z4⟩] w') (ds := []) #[false, false, false, false] (by kernel_rfl) rfl rfl (S.out.drew) (fun hHeld => ?_)
      refine take_ (i := 0) (N := some 3) (v := ?_) (a' := ?_) #[true, false, false, false] rfl rfl (by kernel_rfl) (fun _ _ _ h => h) (Or.inl ⟨by rfl, ?_⟩) hHeld ?_ ?_
      rotate_left
      · intro w' s0
        refine (run_ld 36 (.tmp 1) (by rfl) w.heap.size (by rfl) (s0.blk 0 rfl) Try.underlying36 (m := 4) (by kernel_rfl) (num_length _)).trans ?_
        with_reducible rfl
      rotate_left
      · simp only [Act.put, List.setIfInBounds_toArray, List.set_cons_zero, List.set_cons_succ, i64_w, i32_w]
        rfl
      refine one_ (i := 1) (N := some 4) #[true, true, false, false] rfl rfl (by kernel_rfl) (by decide) (fun K hK => ?_)
      have S0 := Aside0.mk (S.out.drew)
      refine goes_ Try.func77 (by kernel_rfl) rfl #[] (by rfl) rfl rfl (by simp only [List.map_toArray, List.map_cons, List.map_nil] <;> rfl) ?_
      with_reducible refine (impl_prime.calls _).mono ?_
      rintro e w3 ⟨rfl, hb⟩
      refine ⟨_, rfl, ?_⟩
      have S1 := Aside0.mk (S0.out.step hb)
      clear hb
      refine hK.out _ _ (S1.out) (fun hHeld => ?_)
      clear hK K
      refine norm_ (a' := ?_) ?_ ?_
      rotate_left
      · show Act.put _ (some 4) _ = _
        simp only [Act.put, List.setIfInBounds_toArray, List.set_cons_zero, List.set_cons_succ, i64_w, i32_w]
        rfl
      refine one_ (i := 2) (N := some 5) #[true, true, true, false] rfl rfl (by kernel_rfl) (by decide) (fun K hK => ?_)
      refine goes_ Try.func76 (by kernel_rfl) rfl #[.agg (arr .u64 (num y)), .agg (arr .u64 (num PP))] (by rfl) rfl rfl (by simp only [List.map_toArray, List.map_cons, List.map_nil] <;> rfl) ?_
      with_reducible refine (HL.out _).mono ?_
      rintro e w3 ⟨rfl, hb⟩
      refine ⟨_, rfl, ?_⟩
      have S2 := Aside0.mk (S1.out.step hb)
      clear hb
      refine hK.out _ _ (S2.out) (fun hHeld => ?_)
      clear hK K
      refine norm_ (a' := ?_) ?_ ?_
      rotate_left
      · show Act.put _ (some 5) _ = _
        simp only [Act.put, List.setIfInBounds_toArray, List.set_cons_zero, List.set_cons_succ, i64_w, i32_w]
        rfl
      refine pure_ (i := 3) (N := some 6) (v := ?_) (a' := ?_) #[true, true, true, true] rfl rfl (by kernel_rfl) (fun _ _ _ h => h) (Or.inl ⟨by rfl, ?_⟩) ?_ ?_
      rotate_left
      · intro w'
        go_simp
        with_reducible rfl
      rotate_left
      · simp only [Act.put, List.setIfInBounds_toArray, List.set_cons_zero, List.set_cons_succ, i64_w, i32_w]
        rfl
      refine done_ (by kernel_rfl) ?_

      go_wp2_with (first
        | ((with_reducible refine gate_dst (N := 13) rfl ?_); refine ld_arr rfl 36 (.tmp 1) rfl w.heap.size rfl (S2.out.blk 0 rfl) Try.underlying36 (m := 4) (by kernel_rfl) (num_length _) ?_)
        | (refine st_arr rfl 44 (.tmp 2) (.tmp 13) rfl (w.heap.size + 1) (xs := num y) rfl rfl (S2.out.blk 1 rfl) (m := 4) (by kernel_rfl) (num_length _) (by rw [num_length]; rfl) ?_; intro w' h1 h2 h4 h3; have H1 := Aside0.mk h1; have S3 := Aside0.mk (S2.out.row 1 rfl h1 h2 h3); clear h1 h2 h3 h4))
      exact bodyPost_ret (results_cell_row Try.results83 _ _ (w.heap.size + 1) 44 _ (0, 0) _ rfl H1.out Try.underlying44 rfl (by rw [arr_size, num_length]; kernel_rfl)) rfl ⟨by rw [EY.out], S3.out.below⟩
    · have HL : Aside0 (∀ W, Calls Try.prog 76 #[.agg (arr .u64 (num y)), .agg (arr .u64 (num PP))] W fun e w' => e = .returned (.bool false) ∧ Below W.heap.size W w') := ⟨fun W => by
        have h := impl_number_less.calls y PP W
        rw [hb4, Nat.mod_eq_of_lt hy, Nat.mod_eq_of_lt hpb, decide_eq_false hp] at h
        exact h⟩
      obtain ⟨bw, HM⟩ : ∃ bw : Value, Aside0 (∀ W, Calls Try.prog 84 #[.agg (arr .u64 (num y)), .agg (arr .u64 (num PP))] W fun e w' => e = .returned (.tuple #[.agg (arr .u64 (num (y - PP))), bw]) ∧ Below W.heap.size W w') := ⟨_, ⟨fun W => by
        have h := impl_number_minus.calls y PP W
        rw [hb4, Nat.mod_eq_of_lt hy, Nat.mod_eq_of_lt hpb] at h
        have e1 : y + BB - PP = (y - PP) + BB := by omega
        have e2 : (y + BB - PP) % BB = (y - PP) % BB := (congrArg (· % BB) e1).trans (Nat.add_mod_right _ _)
        have e : num (y + BB - PP) = num (y - PP) := (num_mod (y + BB - PP)).symm.trans ((congrArg num e2).trans (num_mod (y - PP)))
        rw [e] at h
        exact h⟩⟩
      have FY := Aside0.mk (show (y - PP) < BB ∧ (y - PP) % PP = x % PP ∧ (y - PP) / PP + 1 = y / PP by
        refine ⟨by omega, ?_, ?_⟩
        · rw [← hm, Nat.mod_eq_sub_mod (show PP ≤ y by omega)]
        · rw [Nat.div_eq_sub_div (show 0 < PP by decide) (show PP ≤ y by omega)])
      clear hm hb4 hpb hp hy
      go_wp2
      refine start_ (n := 4) (S := fun w' => St w [⟨36, .u64, num y⟩, ⟨44, .u64, z4⟩] w') (ds := []) #[false, false, false, false] (by kernel_rfl) rfl rfl (S.out.drew) (fun hHeld => ?_)
      refine take_ (i := 0) (N := some 3) (v := ?_) (a' := ?_) #[true, false, false, false] rfl rfl (by kernel_rfl) (fun _ _ _ h => h) (Or.inl ⟨by rfl, ?_⟩) hHeld ?_ ?_
      rotate_left
      · intro w' s0
        refine (run_ld 36 (.tmp 1) (by rfl) w.heap.size (by rfl) (s0.blk 0 rfl) Try.underlying36 (m := 4) (by kernel_rfl) (num_length _)).trans ?_
        with_reducible rfl
      rotate_left
      · simp only [Act.put, List.setIfInBounds_toArray, List.set_cons_zero, List.set_cons_succ, i64_w, i32_w]
        rfl
      refine one_ (i := 1) (N := some 4) #[true, true, false, false] rfl rfl (by kernel_rfl) (by decide) (fun K hK => ?_)
      have S0 := Aside0.mk (S.out.drew)
      refine goes_ Try.func77 (by kernel_rfl) rfl #[] (by rfl) rfl rfl (by simp only [List.map_toArray, List.map_cons, List.map_nil] <;> rfl) ?_
      with_reducible refine (impl_prime.calls _).mono ?_
      rintro e w3 ⟨rfl, hb⟩
      refine ⟨_, rfl, ?_⟩
      have S1 := Aside0.mk (S0.out.step hb)
      clear hb
      refine hK.out _ _ (S1.out) (fun hHeld => ?_)
      clear hK K
      refine norm_ (a' := ?_) ?_ ?_
      rotate_left
      · show Act.put _ (some 4) _ = _
        simp only [Act.put, List.setIfInBounds_toArray, List.set_cons_zero, List.set_cons_succ, i64_w, i32_w]
        rfl
      refine one_ (i := 2) (N := some 5) #[true, true, true, false] rfl rfl (by kernel_rfl) (by decide) (fun K hK => ?_)
      refine goes_ Try.func76 (by kernel_rfl) rfl #[.agg (arr .u64 (num y)), .agg (arr .u64 (num PP))] (by rfl) rfl rfl (by simp only [List.map_toArray, List.map_cons, List.map_nil] <;> rfl) ?_
      with_reducible refine (HL.out _).mono ?_
      rintro e w3 ⟨rfl, hb⟩
      refine ⟨_, rfl, ?_⟩
      have S2 := Aside0.mk (S1.out.step hb)
      clear hb
      refine hK.out _ _ (S2.out) (fun hHeld => ?_)
      clear hK K
      refine norm_ (a' := ?_) ?_ ?_
      rotate_left
      · show Act.put _ (some 5) _ = _
        simp only [Act.put, List.setIfInBounds_toArray, List.set_cons_zero, List.set_cons_succ, i64_w, i32_w]
        rfl
      refine pure_ (i := 3) (N := some 6) (v := ?_) (a' := ?_) #[true, true, true, true] rfl rfl (by kernel_rfl) (fun _ _ _ h => h) (Or.inl ⟨by rfl, ?_⟩) ?_ ?_
      rotate_left
      · intro w'
        go_simp
        with_reducible rfl
      rotate_left
      · simp only [Act.put, List.setIfInBounds_toArray, List.set_cons_zero, List.set_cons_succ, i64_w, i32_w]
        rfl
      refine done_ (by kernel_rfl) ?_

      go_wp2
      refine start_ (n := 7) (S := fun w' => St w [⟨36, .u64, num y⟩, ⟨44, .u64, z4⟩] w') (ds := [6]) #[false, false, false, false, false, false, false] (by kernel_rfl) rfl rfl (S2.out.drew) (fun hHeld => ?_)
      refine take_ (i := 0) (N := some 8) (v := ?_) (a' := ?_) #[true, false, false, false, false, false, false] rfl rfl (by kernel_rfl) (fun _ _ _ h => h) (Or.inl ⟨by rfl, ?_⟩) hHeld ?_ ?_
      rotate_left
      · intro w' s0
        refine (run_ld 36 (.tmp 1) (by rfl) w.heap.size (by rfl) (s0.blk 0 rfl) Try.underlying36 (m := 4) (by kernel_rfl) (num_length _)).trans ?_
        with_reducible rfl
      rotate_left
      · simp only [Act.put, List.setIfInBounds_toArray, List.set_cons_zero, List.set_cons_succ, i64_w, i32_w]
        rfl
      refine one_ (i := 1) (N := some 9) #[true, true, false, false, false, false, false] rfl rfl (by kernel_rfl) (by decide) (fun K hK => ?_)
      have S3 := Aside0.mk (S2.out.drew)
      refine goes_ Try.func77 (by kernel_rfl) rfl #[] (by rfl) rfl rfl (by simp only [List.map_toArray, List.map_cons, List.map_nil] <;> rfl) ?_
      with_reducible refine (impl_prime.calls _).mono ?_
      rintro e w3 ⟨rfl, hb⟩
      refine ⟨_, rfl, ?_⟩
      have S4 := Aside0.mk (S3.out.step hb)
      clear hb
      refine hK.out _ _ (S4.out) (fun hHeld => ?_)
      clear hK K
      refine norm_ (a' := ?_) ?_ ?_
      rotate_left
      · show Act.put _ (some 9) _ = _
        simp only [Act.put, List.setIfInBounds_toArray, List.set_cons_zero, List.set_cons_succ, i64_w, i32_w]
        rfl
      refine one_ (i := 2) (N := some 10) #[true, true, true, false, false, false, false] rfl rfl (by kernel_rfl) (by decide) (fun K hK => ?_)
      refine goes_ Try.func84 (by kernel_rfl) rfl #[.agg (arr .u64 (num y)), .agg (arr .u64 (num PP))] (by rfl) rfl rfl (by simp only [List.map_toArray, List.map_cons, List.map_nil] <;> rfl) ?_
      with_reducible refine (HM.out _).mono ?_
      rintro e w3 ⟨rfl, hb⟩
      refine ⟨_, rfl, ?_⟩
      have S5 := Aside0.mk (S4.out.step hb)
      clear hb
      refine hK.out _ _ (S5.out) (fun hHeld => ?_)
      clear hK K
      refine norm_ (a' := ?_) ?_ ?_
      rotate_left
      · show Act.put _ (some 10) _ = _
        simp only [Act.put, List.setIfInBounds_toArray, List.set_cons_zero, List.set_cons_succ, i64_w, i32_w]
        rfl
      refine pure_ (i := 3) (N := some 7) (v := ?_) (a' := ?_) #[true, true, true, true, false, false, false] rfl rfl (by kernel_rfl) (fun _ _ _ h => h) (Or.inl ⟨by rfl, ?_⟩) ?_ ?_
      rotate_left
      · intro w'
        go_simp
        with_reducible rfl
      rotate_left
      · simp only [Act.put, List.setIfInBounds_toArray, List.set_cons_zero, List.set_cons_succ, i64_w, i32_w]
        rfl
      refine pure_ (i := 4) (N := some 11) (v := ?_) (a' := ?_) #[true, true, true, true, true, false, false] rfl rfl (by kernel_rfl) (fun _ _ _ h => h) (Or.inl ⟨by rfl, ?_⟩) ?_ ?_
      rotate_left
      · intro w'
        go_simp
        with_reducible rfl
      rotate_left
      · simp only [Act.put, List.setIfInBounds_toArray, List.set_cons_zero, List.set_cons_succ, i64_w, i32_w]
        rfl
      refine pure_ (i := 5) (N := some 12) (v := ?_) (a' := ?_) #[true, true, true, true, true, true, false] rfl rfl (by kernel_rfl) (fun _ _ _ h => h) (Or.inl ⟨by rfl, ?_⟩) ?_ ?_
      rotate_left
      · intro w'
        go_simp
        with_reducible rfl
      rotate_left
      · simp only [Act.put, List.setIfInBounds_toArray, List.set_cons_zero, List.set_cons_succ, i64_w, i32_w]
        rfl
      refine last_ (i := 6) (N := none) #[true, true, true, true, true, true, true] rfl rfl (by kernel_rfl) (by decide) (fun K hK => ?_)
      refine st_step (by rfl) rfl 36 (.tmp 1) (.tmp 11) rfl w.heap.size rfl rfl (S5.out.blk 0 rfl) (m := 4) (by kernel_rfl) (num_length _) (by rw [num_length, num_length]) ?_
      intro w6 h1 h2 h3 h4
      have S6 := Aside0.mk (S5.out.row 0 rfl h1 h2 h3)
      clear h1 h2 h3 h4
      refine hK.out _ _ ?_
      clear hK K
      refine done_ (by kernel_rfl) ?_

      go_wp2
      go_roundg ((y - PP) / PP)
      case measure => have := FY.out; omega
      case rel => exact ⟨y - PP, FY.out.1, FY.out.2.1, by omega, S6⟩


/-! ### impl_small: function 95 -/
set_option maxHeartbeats 1000000 in
set_option maxRecDepth 100000 in
theorem impl_small.calls (n : Nat) (w : World) (hn : n < 18446744073709551616) :
    Calls Try.prog 95 #[.int .u64 (n : Int)] w fun e w' => e = .returned (.agg (arr .u64 (num n))) ∧ Below w.heap.size w w' := by
  rw [← num_small n hn]
  clear hn
  go_enter Try.func95, Try.ntmps95
  go_wp2
  exact bodyPost_ret (results_cell_row Try.results95 _ _ w.heap.size 36 _ (0, 0) _ rfl (blk_new w _) Try.underlying36 rfl (by kernel_rfl)) rfl ⟨by rfl, below_alloc (Below.refl _ _) _⟩


end Go.Proofs.Ytijeackkgcnbgaa.XT
