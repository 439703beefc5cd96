-- Written by a program of this session (xp.py over the kit's printer, with functions proved by hand). Lean checks it.
import Derived.Test.YtijeackkgcnbgaaXHx0
import Derived.Test.YtijeackkgcnbgaaXHx3
namespace Go.Proofs.Ytijeackkgcnbgaa.XH
open Go.Proofs.Ytijeackkgcnbgaa.Limb Go.Proofs.Ytijeackkgcnbgaa.Arr Go.Proofs.Ytijeackkgcnbgaa.FldA Go.Proofs.Ytijeackkgcnbgaa.FldB Go.Proofs.Ytijeackkgcnbgaa.FldC Go.Proofs.Ytijeackkgcnbgaa.FldS Go.Proofs.Ytijeackkgcnbgaa.FldP Go.Proofs.Ytijeackkgcnbgaa.FldW Go.Proofs.Ytijeackkgcnbgaa.FldM Go.Proofs.Ytijeackkgcnbgaa.FldT Go.Proofs.Ytijeackkgcnbgaa.FldRoot Go.Proofs.Ytijeackkgcnbgaa.FldRoot2 Go.Proofs.Ytijeackkgcnbgaa.St Go.Proofs.Ytijeackkgcnbgaa.StOps Go.Proofs.Ytijeackkgcnbgaa.StMid Go.Proofs.Ytijeackkgcnbgaa.StEq Go.Proofs.Ytijeackkgcnbgaa.StIdx Go.Proofs.Ytijeackkgcnbgaa.StSrc
open Go.RowKit Go.Proofs.YtijeackkgcnbgaaW.PrintWords Go.Proofs.YtijeackkgcnbgaaW.PrintLast Go.Proofs.YtijeackkgcnbgaaW.PrintMore
attribute [local go_sem] max2_int min2_int max_two min_two max_three min_three max_four min_four   -- for this text's walks alone
set_option linter.unusedVariables false
set_option linter.unusedSimpArgs false

/-! ### spec_l05Least: function 80 -/
set_option maxHeartbeats 4000000 in
set_option maxRecDepth 100000 in
theorem spec_l05Least.calls (xs : List Int) (w : World) (hb : Bd xs) (hl : xs.length = 16) :
    Calls Try.prog 80 #[.agg (arr .i64 xs)] w fun e w' => e = .returned (.agg (arr .i64 (lstN xs 2))) ∧ Below w.heap.size w w' := by
  have HB := Aside0.mk hb
  have HL := Aside0.mk hl
  have S0 := Aside0.mk (((St.start w).push rfl 40 .i64 xs).push (World.size_alloc ..) 40 .i64 z16)
  have LC := Aside0.mk (carN_bd xs hb hl 3).2
  clear hb hl
  go_enter Try.func80, Try.ntmps80
  go_wp2_with (first
    | ((with_reducible refine gate_dst (N := 8) rfl ?_); refine ld_arr rfl 40 (.tmp 1) rfl w.heap.size rfl (S0.out.blk 0 rfl) Try.underlying40 (m := 16) (by kernel_rfl) HL.out ?_)
    | ((with_reducible refine (spec_l05Carry.calls xs _ HB.out HL.out).mono ?_); rintro e w1 ⟨rfl, hb⟩; have S1 := Aside0.mk (S0.out.step hb); clear hb S0)
    | (refine st_arr rfl 40 (.tmp 1) (.tmp 9) rfl w.heap.size (xs := carN xs 3) rfl rfl (S1.out.blk 0 rfl) (m := 16) (by kernel_rfl) LC.out (by rw [LC.out, HL.out]) ?_; intro w2 h1 h2 h4 h3; have S2 := Aside0.mk (S1.out.row 0 rfl h1 h2 h3); clear h1 h2 h3 h4 S1))
  go_loopg [3, 4, 5, 6, 7] 2 (fun gg v3 _ _ _ _ wr => ∃ n : Nat, n ≤ 2 ∧ 2 - n ≤ gg ∧ v3 = .int .i64 n ∧ Aside0 (St w [⟨40, .i64, lstN xs n⟩, ⟨40, .i64, z16⟩] wr))
  case atStart => exact ⟨0, by omega, by omega, rfl, S2⟩
  case round =>
    obtain ⟨n, hn, hg, rfl, S⟩ := hrel
    obtain ⟨W0, e0⟩ : ∃ W0, W0 = wr := ⟨_, rfl⟩
    subst e0
    by_cases hlt : n < 2
    · have hlti : (n : Int) < 2 := by omega
      have hbs := lstN_bs xs HB.out HL.out n
      have EN := Aside0.mk (show lstN xs (n + 1) = lstR (lstN xs n) from rfl)
      generalize lstN xs n = ys at *
      have YL := Aside0.mk hbs.2
      have ZB := Aside0.mk (lstB_bd ys hbs.1 hbs.2)
      have y1 := (hbs.1 0).1
      have y2 := (hbs.1 0).2
      have EB := Aside0.mk (show lstB ys = ys.set 0 (ys.getD 0 0 + 19) from rfl)
      have ER := Aside0.mk (show lstR ys = (if 32768 ≤ (carS (lstB ys) 16).1.getD 15 0 ∨ 0 < (carS (lstB ys) 16).2 then
    (if 0 < (carS (lstB ys) 16).2 then ((carS (lstB ys) 16).1.set 15 ((carS (lstB ys) 16).1.getD 15 0 - 32768)).set 15 ((carS (lstB ys) 16).1.getD 15 0 - 32768 + 65536) else (carS (lstB ys) 16).1.set 15 ((carS (lstB ys) 16).1.getD 15 0 - 32768))
  else ys) from rfl)
      clear hbs
      obtain ⟨y, hy⟩ : ∃ y, y = ys.getD 0 0 := ⟨_, rfl⟩
      rw [← hy] at y1 y2 EB
      have HY := Aside0.mk hy
      clear hy
      have SZ := Aside0.mk S.out.size
      go_wp2_with (first
        | ((with_reducible refine gate_dst (N := 14) rfl ?_); refine ld_arr rfl 40 (.tmp 1) rfl w.heap.size rfl (S.out.blk 0 rfl) Try.underlying40 (m := 16) (by kernel_rfl) YL.out ?_)
        | (refine st_arr rfl 40 (.tmp 4) (.tmp 14) rfl W0.heap.size (xs := ys) rfl rfl (blk_new W0 (.cells (arr .i64 z16) 40)) (m := 16) (by kernel_rfl) YL.out (by rw [YL.out]; rfl) ?_; intro w2 h1 h2 h4 h3; have S2 := Aside0.mk (St.other (S.out.alloc (.cells (arr .i64 z16) 40)) h2 h3 (by exact SZ.out)); have G := Aside0.mk h1; have hc1 := blk_get h1 0 (by rw [YL.out]; omega); rw [← HY.out] at hc1; have hf1 := blk_frozen h1 0; have S3 := Aside0.mk (S2.out.far W0.heap.size SZ.out 0 (.int .i64 (y + 19))); have G3 := Aside0.mk (blk_upd h1 0 (y + 19)); clear h1 h2 h3 h4 S2 G))
      have zb := ZB.out
      generalize lstB ys = zs at *
      go_loopg [5, 6, 7] 16 (fun gg2 v5 v6 _ wr2 => ∃ k : Nat, k ≤ 16 ∧ 16 - k ≤ gg2 ∧ v6 = .int .i64 k ∧ v5 = .int .i64 (carS zs k).2 ∧ Aside0 (St w [⟨40, .i64, ys⟩, ⟨40, .i64, z16⟩] wr2) ∧ Aside0 (wr2.heap[W0.heap.size]? = some (.cells (arr .i64 (carS zs k).1) 40 (0, 0))))
      case atStart => exact ⟨0, by omega, by omega, rfl, rfl, S3, by have := G3.out; rw [← EB.out] at this; exact ⟨this⟩⟩
      case round =>
        obtain ⟨k, hk, hg2, rfl, rfl, S4, G4⟩ := hrel
        have hcb := carS_bd zs zb.1 k
        have hkb := hcb.1 k
        by_cases hlt2 : k < 16
        · have hlti2 : (k : Int) < 16 := by omega
          have hc1 := blk_get G4.out k (by rw [carS_length, zb.2]; omega)
          have hf1 := blk_frozen G4.out k
          have P := Aside0.mk (S4.out.far W0.heap.size SZ.out k (.int .i64 (((carS zs k).1.getD k 0 + (carS zs k).2) - ((carS zs k).1.getD k 0 + (carS zs k).2) / 65536 * 65536)))
          have PG := Aside0.mk (blk_upd G4.out k (((carS zs k).1.getD k 0 + (carS zs k).2) - ((carS zs k).1.getD k 0 + (carS zs k).2) / 65536 * 65536))
          have EQ := Aside0.mk (show carS zs (k + 1) = ((carS zs k).1.set k (((carS zs k).1.getD k 0 + (carS zs k).2) - ((carS zs k).1.getD k 0 + (carS zs k).2) / 65536 * 65536), ((carS zs k).1.getD k 0 + (carS zs k).2) / 65536) from rfl)
          have a1 := hkb.1
          have a2 := hkb.2
          have a3 := hcb.2.1
          have a4 := hcb.2.2
          clear hcb hkb zb
          generalize (carS zs k).1.getD k 0 = a at *
          generalize (carS zs k).2 = c at *
          have b1 : -4503737066323969 ≤ a + c := by omega
          have b2 : a + c ≤ 4503737066323969 := by omega
          have q1 : -68721573900 ≤ (a + c) / 65536 := by omega
          have q2 : (a + c) / 65536 ≤ 68721573900 := by omega
          go_wp2
          go_roundg (16 - (k + 1))
          case measure => omega
          case rel => refine ⟨k + 1, by omega, by omega, by go_num, ?_, P, by rw [EQ.out]; exact PG⟩; rw [EQ.out]
        · obtain rfl : k = 16 := by omega
          have hneg : ¬ ((16 : Nat) : Int) < 16 := by omega
          have hlo := carS_lo zs zb.2 16 (by omega) 15 (by omega)
          have hc1 := blk_get G4.out 15 (by rw [carS_length, zb.2]; omega)
          have hf1 := blk_frozen G4.out 15
          have L := Aside0.mk (show (carS zs 16).1.length = 16 by rw [carS_length, zb.2])
          have a1 := hlo.1
          have a2 := hlo.2
          clear hcb hkb hlo zb
          generalize carS zs 16 = p at *
          obtain ⟨ps, c⟩ := p
          simp only at *
          have P1 := Aside0.mk (S4.out.far W0.heap.size SZ.out 15 (.int .i64 (ps.getD 15 0 - 32768)))
          have Q1 := Aside0.mk (blk_upd G4.out 15 (ps.getD 15 0 - 32768))
          have P2 := Aside0.mk (P1.out.far W0.heap.size SZ.out 15 (.int .i64 (ps.getD 15 0 - 32768 + 65536)))
          have Q2 := Aside0.mk (blk_upd Q1.out 15 (ps.getD 15 0 - 32768 + 65536))
          have L1 := Aside0.mk (show (ps.set 15 (ps.getD 15 0 - 32768)).length = 16 by rw [List.length_set, L.out])
          have L2 := Aside0.mk (show ((ps.set 15 (ps.getD 15 0 - 32768)).set 15 (ps.getD 15 0 - 32768 + 65536)).length = 16 by rw [List.length_set, List.length_set, L.out])
          generalize ps.getD 15 0 = a at *
          by_cases c0 : 0 < c
          · have E2 := Aside0.mk (ER.out.trans (by rw [if_pos (Or.inr c0), if_pos c0]))
            by_cases c1 : 32768 ≤ a
            all_goals
              go_wp2_with (first
                | ((with_reducible refine gate_dst (N := 53) rfl ?_); refine ld_arr rfl 40 (.tmp 4) rfl W0.heap.size rfl Q2.out Try.underlying40 (m := 16) (by kernel_rfl) L2.out ?_)
                | (refine st_arr rfl 40 (.tmp 1) (.tmp 53) rfl w.heap.size (xs := (ps.set 15 (a - 32768)).set 15 (a - 32768 + 65536)) rfl rfl (P2.out.blk 0 rfl) (m := 16) (by kernel_rfl) L2.out (by rw [YL.out, L2.out]) ?_; intro w2 h1 h2 h4 h3; have S5 := Aside0.mk (P2.out.row 0 rfl h1 h2 h3); clear h1 h2 h3 h4))
              go_roundg (2 - (n + 1))
              case measure => omega
              case rel => exact ⟨n + 1, by omega, by omega, by go_num, by rw [EN.out, E2.out]; exact S5⟩
          · by_cases c1 : 32768 ≤ a
            · have E2 := Aside0.mk (ER.out.trans (by rw [if_pos (Or.inl c1), if_neg c0]))
              go_wp2_with (first
                | ((with_reducible refine gate_dst (N := 53) rfl ?_); refine ld_arr rfl 40 (.tmp 4) rfl W0.heap.size rfl Q1.out Try.underlying40 (m := 16) (by kernel_rfl) L1.out ?_)
                | (refine st_arr rfl 40 (.tmp 1) (.tmp 53) rfl w.heap.size (xs := ps.set 15 (a - 32768)) rfl rfl (P1.out.blk 0 rfl) (m := 16) (by kernel_rfl) L1.out (by rw [YL.out, L1.out]) ?_; intro w2 h1 h2 h4 h3; have S5 := Aside0.mk (P1.out.row 0 rfl h1 h2 h3); clear h1 h2 h3 h4))
              go_roundg (2 - (n + 1))
              case measure => omega
              case rel => exact ⟨n + 1, by omega, by omega, by go_num, by rw [EN.out, E2.out]; exact S5⟩
            · have E2 := Aside0.mk (ER.out.trans (by rw [if_neg (by omega)]))
              go_wp2
              go_roundg (2 - (n + 1))
              case measure => omega
              case rel => exact ⟨n + 1, by omega, by omega, by go_num, by rw [EN.out, E2.out]; exact S4⟩
    · obtain rfl : n = 2 := by omega
      have hneg : ¬ ((2 : Nat) : Int) < 2 := by omega
      have B0 := Aside0.mk (S.out.blk 0 rfl)
      have B1 := Aside0.mk (S.out.blk 1 rfl)
      have L := Aside0.mk (lstN_bs xs HB.out HL.out 2).2
      go_wp2_with (first
        | ((with_reducible refine gate_dst (N := 54) rfl ?_); refine ld_arr rfl 40 (.tmp 1) rfl w.heap.size rfl B0.out Try.underlying40 (m := 16) (by kernel_rfl) L.out ?_)
        | (refine st_arr rfl 40 (.tmp 2) (.tmp 54) rfl (w.heap.size + 1) (xs := lstN xs 2) rfl rfl B1.out (m := 16) (by kernel_rfl) L.out (by rw [L.out]; rfl) ?_; intro w' h1 h2 h4 h3; have H1 := Aside0.mk h1; have H3 := Aside0.mk h3; clear h1 h2 h3 h4))
      exact bodyPost_ret (results_cell_row Try.results80 _ _ (w.heap.size + 1) 40 _ (0, 0) _ rfl H1.out Try.underlying40 rfl (by rw [arr_size, L.out]; kernel_rfl)) rfl ⟨rfl, H3.out _ _ S.out.below (by omega)⟩


/-! ### spec_l05Bytes: function 46 -/
set_option maxHeartbeats 4000000 in
set_option maxRecDepth 100000 in
theorem spec_l05Bytes.calls (xs : List Int) (w : World) (hb : Bd xs) (hl : xs.length = 16) (ho : Ok 65536 (lstN xs 2)) :
    Calls Try.prog 46 #[.agg (arr .i64 xs)] w fun e w' => ∃ v0_ : Value, e = .returned (v0_) ∧ Kd.R (Kd.int .u8) 5 w' w.heap.size (fun _ => True) v0_ (bysS (lstN xs 2) 16) ∧ Below w.heap.size w w' := by
  have HL := Aside0.mk hl
  have S0 := Aside0.mk ((St.start w).push rfl 40 .i64 xs)
  have lc := (lstN_bs xs hb hl 2).2
  have hc := fun W => spec_l05Least.calls xs W hb hl
  clear hb hl
  generalize lstN xs 2 = ys at *
  have LC := Aside0.mk lc
  have HO := Aside0.mk ho
  have HC := Aside0.mk hc
  clear lc hc ho
  go_enter Try.func46, Try.ntmps46
  go_wp2_with (first
    | ((with_reducible refine gate_dst (N := 5) rfl ?_); refine ld_arr rfl 40 (.tmp 1) rfl w.heap.size rfl (S0.out.blk 0 rfl) Try.underlying40 (m := 16) (by kernel_rfl) HL.out ?_)
    | ((with_reducible refine (HC.out _).mono ?_); rintro e w1 ⟨rfl, hb⟩; have S1 := Aside0.mk (S0.out.step hb); clear hb S0)
    | (refine st_arr rfl 40 (.tmp 1) (.tmp 6) rfl w.heap.size (xs := ys) rfl rfl (S1.out.blk 0 rfl) (m := 16) (by kernel_rfl) LC.out (by rw [LC.out, HL.out]) ?_; intro w2 h1 h2 h4 h3; have S2 := Aside0.mk (S1.out.row 0 rfl h1 h2 h3); clear h1 h2 h3 h4 S1))
  go_loopg [3, 4] 16 (fun gg v3 v4 wr => ∃ k : Nat, k ≤ 16 ∧ 16 - k ≤ gg ∧ v4 = .int .i64 k ∧ Aside0 (St w [⟨40, .i64, ys⟩] wr) ∧ Aside0 (Kd.R (Kd.int .u8) 5 wr (w.heap.size + 1) (fun _ => True) v3 (bysS ys k)))
  case atStart =>
    exact ⟨0, by omega, by omega, rfl, ⟨S2.out.alloc _⟩, ⟨R_fresh _ _ _ S2.out.size⟩⟩
  case round =>
    obtain ⟨k, hk, hg, rfl, S, HV⟩ := hrel
    obtain ⟨Av, cv, ev⟩ := Kd.R_slice HV.out
    rw [bysS_length] at ev
    subst ev
    by_cases hlt : k < 16
    · have hlti : (k : Int) < 16 := by omega
      have hc1 := S.out.cell 0 rfl k (by rw [LC.out]; omega)
      rw [Nat.add_zero] at hc1
      have ha := getD_range HO.out k (by rw [LC.out]; omega)
      have a0 := ha.1
      have a1 : ys.getD k 0 < 65536 := ha.2
      have HL2 := Aside0.mk (bysS_length ys k)
      have BW := Aside0.mk (Below.refl (w.heap.size + 1) wr)
      have SZ := Aside0.mk S.out.size
      have eq : bysS ys (k + 1) = bysS ys k ++ [ys.getD k 0 % 256, ys.getD k 0 / 256] := rfl
      clear ha
      generalize ys.getD k 0 = a at *
      rw [← show IntKind.u8.wrap (a.tmod 256) = a % 256 from by rw [Int.tmod_eq_emod_of_nonneg a0, IntKind.wrap_u8]; omega, ← show IntKind.u8.wrap (wrap64 (a.tdiv 256)) = a / 256 from by rw [Int.tdiv_eq_ediv_of_nonneg a0, show wrap64 (a / 256) = a / 256 from by unfold wrap64; omega, IntKind.wrap_u8]; omega] at eq
      have EQ := Aside0.mk eq
      clear eq
      obtain ⟨W0, e0⟩ : ∃ W0, W0 = wr := ⟨_, rfl⟩
      subst e0
      have BWD := Aside0.mk (below_drew BW.out)
      have SZD := Aside0.mk (show w.heap.size + 1 ≤ W0.drew.heap.size from Nat.le_trans SZ.out (below_drew BW.out).size)
      --REG
      go_wp2
      refine start_ (n := 14) (S := fun w' => w'.cell? ⟨w.heap.size, k, none⟩ = some (.int .i64 a)) (ds := [11, 12]) #[false, false, false, false, false, false, false, false, false, false, false, false, false, false] (by kernel_rfl) rfl rfl (hc1) (fun hHeld => ?_)
      refine pure_ (i := 0) (N := some 12) (v := ?_) (a' := ?_) #[true, false, false, false, false, false, false, false, false, false, false, false, false, false] rfl rfl (by kernel_rfl) (fun _ _ _ h => h) (Or.inl ⟨by rfl, ?_⟩) ?_ ?_
      rotate_left
      · intro w'
        go_simp
        with_reducible rfl
      rotate_left
      · simp only [Act.put, List.setIfInBounds_toArray, List.set_cons_zero, List.set_cons_succ, i64_w, i32_w]
        rfl
      refine pure_ (i := 1) (N := some 13) (v := ?_) (a' := ?_) #[true, true, false, false, false, false, false, false, false, false, false, false, false, false] rfl rfl (by kernel_rfl) (fun _ _ _ h => h) (Or.inl ⟨by rfl, ?_⟩) ?_ ?_
      rotate_left
      · intro w'
        go_simp
        with_reducible rfl
      rotate_left
      · simp only [Act.put, List.setIfInBounds_toArray, List.set_cons_zero, List.set_cons_succ, i64_w, i32_w]
        rfl
      refine pure_ (i := 2) (N := some 14) (v := ?_) (a' := ?_) #[true, true, true, false, false, false, false, false, false, false, false, false, false, false] rfl rfl (by kernel_rfl) (fun _ _ _ h => h) (Or.inl ⟨by rfl, ?_⟩) ?_ ?_
      rotate_left
      · intro w'
        go_simp
        with_reducible rfl
      rotate_left
      · simp only [Act.put, List.setIfInBounds_toArray, List.set_cons_zero, List.set_cons_succ, i64_w, i32_w]
        rfl
      refine pure_ (i := 6) (N := some 18) (v := ?_) (a' := ?_) #[true, true, true, false, false, false, true, false, false, false, false, false, false, false] rfl rfl (by kernel_rfl) (fun _ _ _ h => h) (Or.inl ⟨by rfl, ?_⟩) ?_ ?_
      rotate_left
      · intro w'
        go_simp
        with_reducible rfl
      rotate_left
      · simp only [Act.put, List.setIfInBounds_toArray, List.set_cons_zero, List.set_cons_succ, i64_w, i32_w]
        rfl
      refine pure_ (i := 7) (N := some 19) (v := ?_) (a' := ?_) #[true, true, true, false, false, false, true, true, false, false, false, false, false, false] rfl rfl (by kernel_rfl) (fun _ _ _ h => h) (Or.inl ⟨by rfl, ?_⟩) ?_ ?_
      rotate_left
      · intro w'
        go_simp
        with_reducible rfl
      rotate_left
      · simp only [Act.put, List.setIfInBounds_toArray, List.set_cons_zero, List.set_cons_succ, i64_w, i32_w]
        rfl
      refine take_ (i := 3) (N := some 15) (v := ?_) (a' := ?_) #[true, true, true, true, false, false, true, true, false, false, false, false, false, false] rfl rfl (by kernel_rfl) (fun _ _ _ h => h) (Or.inl ⟨by rfl, ?_⟩) hHeld ?_ ?_
      rotate_left
      · intro w' s0
        go_simp
        with_reducible rfl
      rotate_left
      · simp only [Act.put, List.setIfInBounds_toArray, List.set_cons_zero, List.set_cons_succ, i64_w, i32_w]
        rfl
      refine pure_ (i := 4) (N := some 16) (v := ?_) (a' := ?_) #[true, true, true, true, true, false, true, true, false, false, false, false, false, false] rfl rfl (by kernel_rfl) (fun _ _ _ h => h) (Or.inl ⟨by rfl, ?_⟩) ?_ ?_
      rotate_left
      · intro w'
        go_simp
        with_reducible rfl
      rotate_left
      · simp only [Act.put, List.setIfInBounds_toArray, List.set_cons_zero, List.set_cons_succ, i64_w, i32_w]
        rfl
      refine pure_ (i := 5) (N := some 17) (v := ?_) (a' := ?_) #[true, true, true, true, true, true, true, true, false, false, false, false, false, false] rfl rfl (by kernel_rfl) (fun _ _ _ h => h) (Or.inl ⟨by rfl, ?_⟩) ?_ ?_
      rotate_left
      · intro w'
        go_simp
        with_reducible rfl
      rotate_left
      · simp only [Act.put, List.setIfInBounds_toArray, List.set_cons_zero, List.set_cons_succ, i64_w, i32_w]
        rfl
      refine take_ (i := 8) (N := some 20) (v := ?_) (a' := ?_) #[true, true, true, true, true, true, true, true, true, false, false, false, false, false] rfl rfl (by kernel_rfl) (fun _ _ _ h => h) (Or.inl ⟨by rfl, ?_⟩) hHeld ?_ ?_
      rotate_left
      · intro w' s0
        go_simp
        with_reducible rfl
      rotate_left
      · simp only [Act.put, List.setIfInBounds_toArray, List.set_cons_zero, List.set_cons_succ, i64_w, i32_w]
        rfl
      refine pure_ (i := 9) (N := some 21) (v := ?_) (a' := ?_) #[true, true, true, true, true, true, true, true, true, true, false, false, false, false] rfl rfl (by kernel_rfl) (fun _ _ _ h => h) (Or.inl ⟨by rfl, ?_⟩) ?_ ?_
      rotate_left
      · intro w'
        go_simp
        with_reducible rfl
      rotate_left
      · simp only [Act.put, List.setIfInBounds_toArray, List.set_cons_zero, List.set_cons_succ, i64_w, i32_w]
        rfl
      refine pure_ (i := 10) (N := some 22) (v := ?_) (a' := ?_) #[true, true, true, true, true, true, true, true, true, true, true, false, false, false] rfl rfl (by kernel_rfl) (fun _ _ _ h => h) (Or.inl ⟨by rfl, ?_⟩) ?_ ?_
      rotate_left
      · intro w'
        go_simp
        with_reducible rfl
      rotate_left
      · simp only [Act.put, List.setIfInBounds_toArray, List.set_cons_zero, List.set_cons_succ, i64_w, i32_w]
        rfl
      refine last_ (i := 11) (N := some 23) #[true, true, true, true, true, true, true, true, true, true, true, true, false, false] rfl rfl (by kernel_rfl) (by decide) (fun K hK => ?_)
      refine Kd.R_lit_step (Kd.int .u8) _ 5 (by rfl) (N := 23) rfl (xs := ([IntKind.u8.wrap (a.tmod 256), IntKind.u8.wrap (wrap64 (a.tdiv 256))] : List Int)) (inner := [.int .u8 (IntKind.u8.wrap (a.tmod 256)), .int .u8 (IntKind.u8.wrap (wrap64 (a.tdiv 256)))]) (ok := fun _ => True) (okp := fun _ => True) ?hr ?hp (fun _ hk => hk) trivial (Below.refl _ _) (Nat.le_refl _) (by simp) ?_
      case hr => first | (go_simp; done) | (go_simp; rfl)
      case hp => exact (Reps.one (show Kd.M (Kd.int .u8) _ _ _ (IntKind.u8.wrap (a.tmod 256)) [.int .u8 (IntKind.u8.wrap (a.tmod 256))] from rfl) (Reps.one (show Kd.M (Kd.int .u8) _ _ _ (IntKind.u8.wrap (wrap64 (a.tdiv 256))) [.int .u8 (IntKind.u8.wrap (wrap64 (a.tdiv 256)))] from rfl) (Reps.none _ _)))
      intro v5 w5 ho6 hb hg_ hnew_
      clear hg_ hnew_
      have n0_ := Aside0.mk (Kd.R_below (by (with_reducible repeat (first | apply Kd.R_alloc | apply Kd.R_drewN | apply Kd.R_drew)); exact HV.out) hb)
      have n1_ := Aside0.mk (Kd.R_lower (base' := w.heap.size + 1) ho6 SZD.out)
      have n2_ := Aside0.mk (below_stepB BWD.out hb SZD.out)
      clear hb HV BW
      have HV := n0_
      have HN := n1_
      have BW := n2_
      clear n0_ n1_ n2_ ho6
      obtain ⟨An, cn, en⟩ := Kd.R_slice HN.out
      rw [show ([IntKind.u8.wrap (a.tmod 256), IntKind.u8.wrap (wrap64 (a.tdiv 256))] : List Int).length = 2 from rfl] at en
      subst en
      refine hK.out _ _ ?_
      clear hK K
      refine norm_ (a' := ?_) ?_ ?_
      rotate_left
      · show Act.put _ (some 23) _ = _
        simp only [Act.put, List.setIfInBounds_toArray, List.set_cons_zero, List.set_cons_succ, i64_w, i32_w]
        rfl
      refine last_ (i := 12) (N := some 24) #[true, true, true, true, true, true, true, true, true, true, true, true, true, false] rfl rfl (by kernel_rfl) (by decide) (fun K hK => ?_)
      refine Kd.R_append_rows_step (Kd.int .u8) (w0 := W0) (w.heap.size + 1) (by rfl) (.tmp 12) (.tmp 23) 22 5 (.int .u8 0) 1 rfl Try.underlying22 info5 rfl (by decide) (by omega) (.slice Av (2 * k) cv) (bysS ys k) [IntKind.u8.wrap (a.tmod 256), IntKind.u8.wrap (wrap64 (a.tdiv 256))] _ _ _ (fun _ => True) (fun _ => False) rfl rfl (by (with_reducible repeat (first | apply Kd.R_alloc | apply Kd.R_drewN | apply Kd.R_drew)); exact HV.out) (Kd.R_reads' HN.out).2.2 (fun _ _ h => h) (fun _ h => h.elim) (fun _ _ => trivial) BW.out (Nat.le_trans SZ.out BW.out.size) (by have := HL2.out; omega) ?_
      intro v6 w6 ho hb hg_ hat
      rw [← EQ.out] at ho
      have HV2 := Aside0.mk ho
      have BW2 := Aside0.mk hb
      clear hg_ hat ho hb
      refine hK.out _ _ ?_
      clear hK K
      refine norm_ (a' := ?_) ?_ ?_
      rotate_left
      · show Act.put _ (some 24) _ = _
        simp only [Act.put, List.setIfInBounds_toArray, List.set_cons_zero, List.set_cons_succ, i64_w, i32_w]
        rfl
      refine pure_ (i := 13) (N := some 3) (v := ?_) (a' := ?_) #[true, true, true, true, true, true, true, true, true, true, true, true, true, true] rfl rfl (by kernel_rfl) (fun _ _ _ h => h) (Or.inl ⟨by rfl, ?_⟩) ?_ ?_
      rotate_left
      · intro w'
        go_simp
        with_reducible rfl
      rotate_left
      · simp only [Act.put, List.setIfInBounds_toArray, List.set_cons_zero, List.set_cons_succ, i64_w, i32_w]
        rfl
      refine done_ (by kernel_rfl) ?_

      go_wp2
      go_roundg (16 - (k + 1))
      case measure => omega
      case rel => exact ⟨k + 1, by omega, by omega, by go_num, ⟨S.out.stepB BW2.out⟩, ⟨(by (with_reducible repeat (first | apply Kd.R_alloc | apply Kd.R_drewN | apply Kd.R_drew)); exact HV2.out)⟩⟩
    · have hk16 : k = 16 := by omega
      have hneg : ¬ (k : Int) < 16 := by omega
      have HK := Aside0.mk hk16
      clear hk16 hk hlt
      go_wp2
      go_ret
      refine ⟨_, rfl, ?_, S.out.below⟩
      have h1 := Kd.R_lower HV.out (Nat.le_succ _)
      rw [congrArg (bysS ys) HK.out] at h1
      exact h1
set_option maxHeartbeats 1000000 in
set_option maxRecDepth 100000 in
theorem bytes_fe (c : Nat) (w : World) (hc : c < BB) :
    Calls Try.prog 46 #[.agg (arr .i64 (fe c))] w fun e w' => ∃ v0_ : Value, e = .returned (v0_) ∧ Kd.R (Kd.int .u8) 5 w' w.heap.size (fun _ => True) v0_ (limbs 256 32 (c % PP)) ∧ Below w.heap.size w w' := by
  have h := spec_l05Bytes.calls (fe c) w (fe_bd _) (fe_length _) (by rw [lstN_fe _ hc]; exact fe_ok _)
  rw [bys_fe _ hc] at h
  exact h


/-! ### spec_l05Of: function 48 -/
set_option maxHeartbeats 400000 in
set_option maxRecDepth 100000 in
theorem spec_l05Of.calls (A0 : Option Addr) (c0 : Nat) (l0 : List Int) (w : World) (hr0 : Kd.C (Kd.int .u8) w A0 l0.length l0) (h32 : l0.length = 32) (hb : Ok 256 l0) :
    Calls Try.prog 48 #[.slice A0 l0.length c0] w fun e w' => e = .returned (.agg (arr .i64 (ofS l0 16))) ∧ Below w.heap.size w w' := by
  have HR := Aside0.mk hr0
  have H32 := Aside0.mk h32
  have OB := Aside0.mk hb
  clear hr0 hb h32
  go_enter Try.func48, Try.ntmps48
  go_wp2
  go_loopg [4] 16 (fun gg v4 wr => ∃ k : Nat, k ≤ 16 ∧ 16 - k ≤ gg ∧ v4 = .int .i64 k ∧ Aside0 (St w [⟨40, .i64, z16⟩, ⟨40, .i64, ofS l0 k⟩] wr))
  case atStart =>
    exact ⟨0, by omega, by omega, rfl, ⟨((St.start w).push rfl 40 .i64 z16).push (World.size_alloc ..) 40 .i64 z16⟩⟩
  case round =>
    obtain ⟨k, hk, hg, rfl, S⟩ := hrel
    by_cases hlt : k < 16
    · have hlti : (k : Int) < 16 := by omega
      have h32 := H32.out
      obtain ⟨ad, e1, hx⟩ := Kd.at_int (Kd.C_below HR.out S.out.below) (2 * (k : Int)) (by omega) (by omega)
      cases e1
      obtain ⟨ad, e1, hy⟩ := Kd.at_int (Kd.C_below HR.out S.out.below) (2 * (k : Int) + 1) (by omega) (by omega)
      cases e1
      have hc1 := S.out.cell 1 rfl k (by rw [ofS_length]; omega)
      have hf1 := blk_frozen (S.out.blk 1 rfl) k
      have c1 := getD_range OB.out (2 * k) (by omega)
      have c2 := getD_range OB.out (2 * k + 1) (by omega)
      have e1 : rd l0 (2 * (k : Int)) = l0.getD (2 * k) 0 := by rw [rd, show (2 * (k : Int)).toNat = 2 * k from by omega]
      have e2 : rd l0 (2 * (k : Int) + 1) = l0.getD (2 * k + 1) 0 := by rw [rd, show (2 * (k : Int) + 1).toNat = 2 * k + 1 from by omega]
      rw [e1, show (2 * (k : Int)).toNat = 2 * k from by omega] at hx
      rw [e2, show (2 * (k : Int) + 1).toNat = 2 * k + 1 from by omega] at hy
      have P := Aside0.mk ((S.out.set 1 rfl k (l0.getD (2 * k) 0 + 256 * l0.getD (2 * k + 1) 0)).drew)
      have EQ := Aside0.mk (show ofS l0 (k + 1) = (ofS l0 k).set k (l0.getD (2 * k) 0 + 256 * l0.getD (2 * k + 1) 0) from rfl)
      have hl : (2 * (k : Int) + 1) < (l0.length : Int) := by omega
      clear e1 e2
      generalize l0.getD (2 * k) 0 = x at *
      generalize l0.getD (2 * k + 1) 0 = y at *
      obtain ⟨i, hi⟩ : ∃ i : Nat, i = 2 * k := ⟨_, rfl⟩
      obtain ⟨j, hj⟩ : ∃ j : Nat, j = 2 * k + 1 := ⟨_, rfl⟩
      rw [← hi] at hx
      rw [← hj] at hy
      have i1 : 2 * (k : Int) = (i : Int) := by omega
      have j1 : (i : Int) + 1 = (j : Int) := by omega
      have j32 : (j : Int) < 32 := by omega
      have x0 := c1.1
      have x1 : x < 256 := c1.2
      have y0 := c2.1
      have y1 : y < 256 := c2.2
      clear hi hj hl c1 c2
      go_wp2
      go_region
      go_wp2
      go_roundg (16 - (k + 1))
      case measure => omega
      case rel => exact ⟨k + 1, by omega, by omega, by go_num, by rw [EQ.out]; exact P⟩
    · obtain rfl : k = 16 := by omega
      have hneg : ¬ ((16 : Nat) : Int) < 16 := by omega
      have B0 := Aside0.mk (S.out.blk 0 rfl)
      have B1 := Aside0.mk (S.out.blk 1 rfl)
      go_wp2_with (first
        | ((with_reducible refine gate_dst (N := 27) rfl ?_); refine ld_arr rfl 40 (.tmp 3) rfl (w.heap.size + 1) rfl B1.out Try.underlying40 (m := 16) (by kernel_rfl) (ofS_length _ _) ?_)
        | (refine st_arr rfl 40 (.tmp 2) (.tmp 27) rfl w.heap.size (xs := ofS l0 16) rfl rfl B0.out (m := 16) (by kernel_rfl) (ofS_length _ _) (by rw [ofS_length]; rfl) ?_; intro w' h1 h2 h4 h3; have H1 := Aside0.mk h1; have H3 := Aside0.mk h3; clear h1 h2 h3 h4))
      exact bodyPost_ret (results_cell_row Try.results48 _ _ w.heap.size 40 _ (0, 0) _ rfl H1.out Try.underlying40 rfl (by rw [arr_size, ofS_length]; kernel_rfl)) rfl ⟨rfl, H3.out _ _ S.out.below (Nat.le_refl _)⟩


/-! ### spec_l05Sub: function 53 -/
set_option maxHeartbeats 400000 in
set_option maxRecDepth 100000 in
theorem spec_l05Sub.calls (x y : Nat) (w : World) (hx : x < BB) (hy : y < BB) :
    Calls Try.prog 53 #[.agg (arr .i64 (fe x)), .agg (arr .i64 (fe y))] w fun e w' => ∃ c, c < BB ∧ (c + y) % PP = x % PP ∧ e = .returned (.agg (arr .i64 (fe c))) ∧ Below w.heap.size w w' := by
  obtain ⟨hbd, c, hc1, hc2, hc3⟩ := sub_fe x y hx hy
  have HC := Aside0.mk (fun W => spec_l05Carry.calls (subT x y) W hbd (subT_length x y))
  rw [hc2] at HC
  refine Calls.mono (R := fun e w' => e = .returned (.agg (arr .i64 (fe c))) ∧ Below w.heap.size w w') ?_ (fun e w' h => ⟨c, hc1, hc3, h⟩)
  clear hc1 hc2 hc3 hx hy hbd
  have BS := Aside0.mk ((subS_bs x y 16) 0)
  have HT := Aside0.mk (show subT x y = (subS (fe x) (fe y) 16).set 0 ((subS (fe x) (fe y) 16).getD 0 0 - 37) from rfl)
  have LT := Aside0.mk (subT_length x y)
  generalize subT x y = ts at *
  have HE := Aside0.mk (fun k => subS_rest (fe x) (fe y) k k (Nat.le_refl k))
  have RX := Aside0.mk (fe_getD x)
  have RY := Aside0.mk (fe_getD y)
  have LS := Aside0.mk (fun k => (subS_length (fe x) (fe y) k).trans (fe_length x))
  have LX := Aside0.mk (fe_length x)
  have LY := Aside0.mk (fe_length y)
  have HS := Aside0.mk (fun k => show subS (fe x) (fe y) (k + 1) = (subS (fe x) (fe y) k).set k ((subS (fe x) (fe y) k).getD k 0 + (65535 - (fe y).getD k 0)) from rfl)
  have H0 := Aside0.mk (show subS (fe x) (fe y) 0 = fe x from rfl)
  generalize subS (fe x) (fe y) = A at *
  generalize fe x = xs at *
  generalize fe y = ys at *
  generalize hf : fe c = zs at *
  have LZ := Aside0.mk (hf ▸ fe_length c)
  clear hf
  go_enter Try.func53, Try.ntmps53
  go_wp2
  go_loopg [5] 16 (fun gg v5 wr => ∃ k : Nat, k ≤ 16 ∧ 16 - k ≤ gg ∧ v5 = .int .i64 k ∧ Aside0 (St w [⟨40, .i64, A k⟩, ⟨40, .i64, ys⟩, ⟨40, .i64, z16⟩] wr))
  case atStart =>
    refine ⟨0, by omega, by omega, rfl, ?_⟩
    rw [H0.out]
    exact ⟨(((St.start w).push rfl 40 .i64 xs).push (World.size_alloc ..) 40 .i64 ys).push (by rw [World.size_alloc, World.size_alloc]; rfl) 40 .i64 z16⟩
  case round =>
    obtain ⟨k, hk, hg, rfl, S⟩ := hrel
    by_cases hlt : k < 16
    · have hlti : (k : Int) < 16 := by omega
      have hc1 := S.out.cell 0 rfl k (by rw [LS.out]; omega)
      have hf1 := blk_frozen (S.out.blk 0 rfl) k
      rw [Nat.add_zero] at hc1 hf1
      have hc2 := S.out.cell 1 rfl k (by rw [LY.out]; omega)
      have a := RX.out k
      have b := RY.out k
      have a1 := a.1
      have a2 := a.2
      have b1 := b.1
      have b2 := b.2
      rw [HE.out k] at hc1
      have P := Aside0.mk ((S.out.set 0 rfl k (xs.getD k 0 + (65535 - ys.getD k 0))).drew)
      have EQ := Aside0.mk ((HS.out k).trans (by rw [HE.out k]))
      clear a b
      generalize xs.getD k 0 = a at *
      generalize ys.getD k 0 = b at *
      go_wp2
      go_region
      go_wp2
      go_roundg (16 - (k + 1))
      case measure => omega
      case rel => exact ⟨k + 1, by omega, by omega, by go_num, by rw [EQ.out]; exact P⟩
    · have hk16 : k = 16 := by omega
      subst hk16
      have hneg : ¬ ((16 : Nat) : Int) < 16 := by omega
      have hb0 := BS.out
      have hb1 := hb0.1
      have hb2 := hb0.2
      have hc1 := S.out.cell 0 rfl 0 (by rw [LS.out]; omega)
      have hf1 := blk_frozen (S.out.blk 0 rfl) 0
      rw [Nat.add_zero] at hc1 hf1
      have S0 := Aside0.mk (S.out.set 0 rfl 0 ((A 16).getD 0 0 - 37))
      rw [← HT.out] at S0
      clear hb0
      generalize (A 16).getD 0 0 = a at *
      go_wp2_with (first
        | ((with_reducible refine gate_dst (N := 23) rfl ?_); refine ld_arr rfl 40 (.tmp 2) rfl w.heap.size rfl (S0.out.blk 0 rfl) Try.underlying40 (m := 16) (by kernel_rfl) LT.out ?_)
        | ((with_reducible refine (HC.out _).mono ?_); rintro e w1 ⟨rfl, hb⟩; have S1 := Aside0.mk (S0.out.step hb); clear hb)
        | (refine st_arr rfl 40 (.tmp 4) (.tmp 24) rfl (w.heap.size + 2) (xs := zs) rfl rfl (S1.out.blk 2 rfl) (m := 16) (by kernel_rfl) LZ.out (by rw [LZ.out]; rfl) ?_; intro w' h1 h2 h4 h3; have H1 := Aside0.mk h1; have S2 := Aside0.mk (S1.out.row 2 rfl h1 h2 h3); clear h1 h2 h3 h4))
      exact bodyPost_ret (results_cell_row Try.results53 _ _ (w.heap.size + 2) 40 _ (0, 0) _ rfl H1.out Try.underlying40 rfl (by rw [arr_size, LZ.out]; kernel_rfl)) rfl ⟨rfl, S2.out.below⟩


/-! ### spec_l05Small: function 89 -/
theorem small_fe (n : Nat) (hn : n < 4294967296) : ((List.replicate 16 (0 : Int)).set 0 ((n % 65536 : Nat) : Int)).set 1 ((n / 65536 : Nat) : Int) = fe n := by
  refine eq_fe (xs := ((List.replicate 16 (0 : Int)).set 0 ((n % 65536 : Nat) : Int)).set 1 ((n / 65536 : Nat) : Int)) ?_ (by simp) n ?_
  · have h0 : Ok 65536 (List.replicate 16 (0 : Int)) := by
      intro x hx
      rw [List.eq_of_mem_replicate hx]; omega
    exact ok_set (ok_set h0 _ _ (by omega) (by omega)) _ _ (by omega) (by omega)
  · rw [BB_pow, Nat.mod_eq_of_lt (show n < BB by rw [BB_eq]; omega)]
    show lval 65536 [((n % 65536 : Nat) : Int), ((n / 65536 : Nat) : Int), 0, 0, 0, 0, 0, 0, 0, 0, 0, 0, 0, 0, 0, 0] = _
    simp only [lval]
    omega
set_option maxHeartbeats 1000000 in
set_option maxRecDepth 100000 in
theorem spec_l05Small.calls (n : Nat) (w : World) (hn : n < 4294967296) :
    Calls Try.prog 89 #[.int .i64 (n : Int)] w fun e w' => e = .returned (.agg (arr .i64 (fe n))) ∧ Below w.heap.size w w' := by
  have HF := Aside0.mk (small_fe n hn)
  have LF := Aside0.mk (fe_length n)
  obtain ⟨a, ha⟩ : ∃ a : Nat, a = n % 65536 := ⟨_, rfl⟩
  obtain ⟨b, hb⟩ : ∃ b : Nat, b = n / 65536 := ⟨_, rfl⟩
  rw [← ha, ← hb] at HF
  have n0 : (n : Int) % 65536 = (a : Int) := by omega
  have n1 : (n : Int).tmod 65536 = (a : Int) := by rw [Int.tmod_eq_emod_of_nonneg (by omega)]; omega
  have n2 : (n : Int) / 65536 = (b : Int) := by omega
  have n3 : (n : Int).tdiv 65536 = (b : Int) := by rw [Int.tdiv_eq_ediv_of_nonneg (by omega)]; omega
  have n4 : (n : Int) < 4294967296 := by omega
  have n5 : (b : Int) < 65536 := by omega
  generalize fe n = zs at *
  clear ha hb hn
  have S0 := Aside0.mk (((St.start w).push rfl 40 .i64 z16).push (World.size_alloc ..) 40 .i64 z16)
  go_enter Try.func89, Try.ntmps89
  go_wp2
  exact bodyPost_ret (results_cell_row Try.results89 _ _ w.heap.size 40 _ (0, 0) _ rfl (blk_alloc (blk_new w _) _) Try.underlying40 rfl (by kernel_rfl)) rfl ⟨by rw [← HF.out]; rfl, below_alloc (below_alloc (Below.refl _ _) _) _⟩


end Go.Proofs.Ytijeackkgcnbgaa.XH
