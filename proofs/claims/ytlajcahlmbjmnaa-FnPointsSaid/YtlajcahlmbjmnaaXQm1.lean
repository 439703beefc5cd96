-- Walks of the functions that the law reaches. Joined by a program of this session. Lean checks it.
import Derived.Test.YtlajcahlmbjmnaaXQm0
namespace Go.Proofs.Ytlajcahlmbjmnaa.XQ
open Go.Proofs.Ytlajcahlmbjmnaa.Limb Go.Proofs.Ytlajcahlmbjmnaa.Arr Go.Proofs.Ytlajcahlmbjmnaa.FldA Go.Proofs.Ytlajcahlmbjmnaa.FldB Go.Proofs.Ytlajcahlmbjmnaa.FldC Go.Proofs.Ytlajcahlmbjmnaa.FldS Go.Proofs.Ytlajcahlmbjmnaa.FldP Go.Proofs.Ytlajcahlmbjmnaa.FldW Go.Proofs.Ytlajcahlmbjmnaa.FldM Go.Proofs.Ytlajcahlmbjmnaa.FldT Go.Proofs.Ytlajcahlmbjmnaa.FldRoot Go.Proofs.Ytlajcahlmbjmnaa.FldRoot2 Go.Proofs.Ytlajcahlmbjmnaa.FldPt Go.Proofs.Ytlajcahlmbjmnaa.St Go.Proofs.Ytlajcahlmbjmnaa.OpenS Go.Proofs.Ytlajcahlmbjmnaa.StOps Go.Proofs.Ytlajcahlmbjmnaa.StMid Go.Proofs.Ytlajcahlmbjmnaa.StEq Go.Proofs.Ytlajcahlmbjmnaa.StPt Go.Proofs.Ytlajcahlmbjmnaa.StIdx Go.Proofs.Ytlajcahlmbjmnaa.StSrc Go.Proofs.Ytlajcahlmbjmnaa.FldOps Go.Proofs.Ytlajcahlmbjmnaa.FldOpsS Go.Proofs.Ytlajcahlmbjmnaa.StChain Go.Proofs.Ytlajcahlmbjmnaa.FldLaw Go.Proofs.Ytlajcahlmbjmnaa.FldSqrt Go.Proofs.Ytlajcahlmbjmnaa.FldDec Go.Proofs.Ytlajcahlmbjmnaa.FldGrp Go.Proofs.Ytlajcahlmbjmnaa.Edw Go.Proofs.Ytlajcahlmbjmnaa.EdP
open Go.RowKit Go.Proofs.YtlajcahlmbjmnaaW.PrintWords Go.Proofs.YtlajcahlmbjmnaaW.PrintLast Go.Proofs.YtlajcahlmbjmnaaW.PrintMore
attribute [local go_sem] max2_int min2_int max_two min_two max_three min_three max_four min_four   -- for this text's walks alone
set_option linter.unusedVariables false
set_option linter.unusedSimpArgs false
theorem feQ_x (x y z t : Nat) : ((feP x y z t).drop 0).take (fe x).length = fe x := by
  rw [List.drop_zero, feP, List.take_left']; rfl
theorem feQ_y (x y z t : Nat) : ((feP x y z t).drop 16).take (fe y).length = fe y := by
  rw [feP, List.drop_left' (fe_length x), List.take_left']; rfl
theorem feQ_z (x y z t : Nat) : ((feP x y z t).drop 32).take (fe z).length = fe z := by
  rw [feP, ← List.append_assoc, List.drop_left' (by simp [fe_length]), List.take_left']; rfl
def RsQ (f : FuncId) (x y v : Nat) (W : World) : Prop := Calls Try.prog f #[.agg (arr .i64 (fe x)), .agg (arr .i64 (fe y))] W fun e w' => ∃ c, c < BB ∧ c % FldB.PP = v ∧ e = .returned (.agg (arr .i64 (fe c))) ∧ Below W.heap.size W w'
theorem RsQ.c {f : FuncId} {x y v : Nat} {W : World} (h : RsQ f x y v W) : Calls Try.prog f #[.agg (arr .i64 (fe x)), .agg (arr .i64 (fe y))] W fun e w' => ∃ c, c < BB ∧ c % FldB.PP = v ∧ e = .returned (.agg (arr .i64 (fe c))) ∧ Below W.heap.size W w' := h
theorem rsQ_mul (x y : Nat) (hx : x < BB) (hy : y < BB) (u v : Nat) (hu : x % FldB.PP = u) (hv : y % FldB.PP = v) (W : World) : RsQ 51 x y (fm u v) W :=
  (spec_l05Mul.calls x y W hx hy).mono fun e w' ⟨c, h1, h2, h3, h4⟩ => ⟨c, h1, by rw [mul_res x y c h2, hu, hv], h3, h4⟩
theorem limbs_first (x : Nat) : (limbs 256 32 x).getD ((0 : Int).toNat) 0 = ((x % 256 : Nat) : Int) := by
  have h := FldA.limbs_getD 256 32 x 0 (by omega)
  rw [Nat.pow_zero, Nat.div_one] at h
  exact h
set_option maxHeartbeats 4000000 in
set_option maxRecDepth 100000 in
theorem spec_l05PointBytes.calls (R : Q4) (w : World) (hR : LtB R) :
    Calls Try.prog 19 #[.agg (arr .i64 (feP R.x R.y R.z R.t))] w fun e w' => ∃ v0_ : Value, e = .returned (v0_) ∧ Kd.R (Kd.int .u8) 5 w' w.heap.size (fun _ => True) v0_ (enc4 (md R)) ∧ Below w.heap.size w w' := by
  obtain ⟨hx, hy, hz, _⟩ := hR
  obtain ⟨iv, hiv⟩ : ∃ i, i = ivv (md R).z := ⟨_, rfl⟩
  obtain ⟨xi, hxi⟩ : ∃ i, i = affX (md R) := ⟨_, rfl⟩
  obtain ⟨yi, hyi⟩ : ∃ i, i = affY (md R) := ⟨_, rfl⟩
  have HI := Aside0.mk (fun W => (show Calls Try.prog 54 #[.agg (arr .i64 (fe R.z))] W fun e w' => ∃ c, c < BB ∧ c % FldB.PP = iv ∧ e = .returned (.agg (arr .i64 (fe c))) ∧ Below W.heap.size W w' from
    (spec_l05Inverse.calls R.z W hz).mono fun e w' ⟨c, h1, h2, h3, h4⟩ => ⟨c, h1, by rw [h2, hiv, Nat.pow_mod]; rfl, h3, h4⟩))
  have HY := Aside0.mk (fun c W (h1 : c < BB) (h2 : c % FldB.PP = iv) => (show Calls Try.prog 51 #[.agg (arr .i64 (fe R.y)), .agg (arr .i64 (fe c))] W fun e w' => ∃ c, c < BB ∧ c % FldB.PP = yi ∧ e = .returned (.agg (arr .i64 (fe c))) ∧ Below W.heap.size W w' from by
    have h := rsQ_mul R.y c hy h1 _ _ rfl h2 W
    rw [hiv] at h
    rw [hyi]; exact h))
  have HX := Aside0.mk (fun c W (h1 : c < BB) (h2 : c % FldB.PP = iv) => (show Calls Try.prog 51 #[.agg (arr .i64 (fe R.x)), .agg (arr .i64 (fe c))] W fun e w' => ∃ c, c < BB ∧ c % FldB.PP = xi ∧ e = .returned (.agg (arr .i64 (fe c))) ∧ Below W.heap.size W w' from by
    have h := rsQ_mul R.x c hx h1 _ _ rfl h2 W
    rw [hiv] at h
    rw [hxi]; exact h))
  have HB := Aside0.mk (fun c W (m : Nat) (h1 : c < BB) (h2 : c % FldB.PP = m) => (show Calls Try.prog 57 #[.agg (arr .i64 (fe c))] W fun e w' => ∃ v0_ : Value, e = .returned (v0_) ∧ Kd.R (Kd.int .u8) 5 w' W.heap.size (fun _ => True) v0_ (limbs 256 32 m) ∧ Below W.heap.size W w' from by
    rw [← h2]; exact bytes_fe c W h1))
  have hyl : yi < FldB.PP := by rw [hyi]; exact affY_lt _
  obtain ⟨ht1, ht2⟩ := top_lt yi hyl
  have EE := Aside0.mk (show enc4 (md R) = if xi % 2 = 1 then (limbs 256 32 yi).set 31 ((limbs 256 32 yi).getD 31 0 + 128) else limbs 256 32 yi from by rw [hxi, hyi]; rfl)
  obtain ⟨ez, hez⟩ : ∃ ez, ez = enc4 (md R) := ⟨_, rfl⟩
  rw [← hez] at EE ⊢
  obtain ⟨xb, hxb⟩ : ∃ b, b = xi % 256 := ⟨_, rfl⟩
  have HXB := Aside0.mk (show (limbs 256 32 xi).getD ((0 : Int).toNat) 0 = (xb : Int) by rw [hxb]; exact limbs_first xi)
  have hxb2 : xb < 256 := by omega
  have hxm : xb % 2 = xi % 2 := by omega
  clear hx hy hz hez hxi hyi hiv hxb hyl
  have LL := Aside0.mk (limbs_length 256 32 yi)
  have T1 := Aside0.mk True.intro
  have T2 := Aside0.mk True.intro
  have S := Aside0.mk ((St.start w).push rfl 43 .i64 (feP R.x R.y R.z R.t))
  by_cases hev : xi % 2 = 1
  · have EE2 := Aside0.mk (EE.out.trans (if_pos hev))
    have hxi1 : (xb : Int) % 2 = 1 := by omega
    clear hev EE hxm
    obtain ⟨b31, hb31⟩ : ∃ b, b = (limbs 256 32 yi).getD 31 0 := ⟨_, rfl⟩
    have HBB := Aside0.mk hb31
    rw [← hb31] at EE2 ht1
    have hb0 : 0 ≤ b31 := by omega
    have hb1 : b31 < 128 := by omega
    clear hb31 ht1 ht2
    go_enter Try.func19, Try.ntmps19
    go_wp2_with (first
      | ((with_reducible refine gate_dst (N := 6) rfl ?_); refine ldm_arr rfl 41 (.tmp 5) rfl w.heap.size 32 rfl (fe R.z) (S.out.blk 0 rfl) (feQ_z _ _ _ _) Try.underlying41 (m := 16) (by kernel_rfl) (fe_length _) ?_)
      | ((with_reducible refine (HI.out _).mono ?_); rintro e w1 ⟨ci, hc, hm, rfl, hb⟩; have Hci := Aside0.mk hc; have Mci := Aside0.mk hm; have S := Aside0.mk (S.out.step hb); clear hb hc hm)
      | (refine st_arr rfl 41 (.tmp 3) (.tmp 7) rfl w1.heap.size (xs := fe ci) rfl rfl (blk_new w1 (.cells (arr .i64 z16) 41)) (m := 16) (by kernel_rfl) (fe_length _) (by rw [fe_length]; rfl) ?_; intro w2 h1 h2 h4 h3; have G := Aside0.mk h1; have S := Aside0.mk (St.other (S.out.alloc (.cells (arr .i64 z16) 41)) h2 h3 S.out.size); clear h1 h2 h3 h4)
      | ((with_reducible refine gate_dst (N := 9) rfl ?_); refine ldm_arr rfl 41 (.tmp 8) rfl w.heap.size 16 rfl (fe R.y) (S.out.blk 0 rfl) (feQ_y _ _ _ _) Try.underlying41 (m := 16) (by kernel_rfl) (fe_length _) ?_)
      | ((with_reducible refine gate_dst (N := 10) rfl ?_); refine ld_arr rfl 41 (.tmp 3) rfl w1.heap.size rfl G.out Try.underlying41 (m := 16) (by kernel_rfl) (fe_length _) ?_)
      | (clear T1; (with_reducible refine (HY.out _ _ Hci.out Mci.out).mono ?_); rintro e w3 ⟨cy, hc, hm, rfl, hb⟩; have Hcy := Aside0.mk hc; have Mcy := Aside0.mk hm; have S := Aside0.mk (S.out.step hb); have G := Aside0.mk (blk_below G.out hb); clear hb hc hm)
      | (clear T2; (with_reducible refine (HB.out _ _ yi Hcy.out Mcy.out).mono ?_); rintro e w4 ⟨v, rfl, hR, hb⟩; obtain ⟨go, co, eo, gb, _, _⟩ := Kd.R_form hR (by rw [limbs_length]; decide); rw [limbs_length] at eo; subst eo; have HR := Aside0.mk (Kd.R_lower hR (below_size S.out.below)); have GB := Aside0.mk (Nat.le_trans (below_size S.out.below) gb); have S := Aside0.mk (S.out.step hb); have G := Aside0.mk (blk_below G.out hb); clear hb hR gb)
      | ((with_reducible refine gate_dst (N := 14) rfl ?_); refine ldm_arr rfl 41 (.tmp 13) rfl w.heap.size 0 rfl (fe R.x) (S.out.blk 0 rfl) (feQ_x _ _ _ _) Try.underlying41 (m := 16) (by kernel_rfl) (fe_length _) ?_)
      | ((with_reducible refine gate_dst (N := 15) rfl ?_); refine ld_arr rfl 41 (.tmp 3) rfl w1.heap.size rfl G.out Try.underlying41 (m := 16) (by kernel_rfl) (fe_length _) ?_)
      | ((with_reducible refine (HX.out _ _ Hci.out Mci.out).mono ?_); rintro e w5 ⟨cx, hc, hm, rfl, hb⟩; have Hcx := Aside0.mk hc; have Mcx := Aside0.mk hm; have S := Aside0.mk (S.out.step hb); have HR := Aside0.mk (Kd.R_below HR.out hb); clear hb hc hm)
      | ((with_reducible refine (HB.out _ _ xi Hcx.out Mcx.out).mono ?_); rintro e w6 ⟨v2, rfl, hR, hb⟩; obtain ⟨gx, cx2, ex, _, _, _⟩ := Kd.R_form hR (by rw [limbs_length]; decide); rw [limbs_length] at ex; subst ex; have hx0 : w6.cell? ⟨gx, 0, none⟩ = some (.int .u8 (xb : Int)) := (by rw [← HXB.out]; exact (Kd.R_celln 0 hR (0 : Int) (by omega) (by first | omega | (rw [limbs_length]; decide))).1); have S := Aside0.mk (S.out.step hb); have HR := Aside0.mk (Kd.R_below HR.out hb); have hx1 : w6.cell? ⟨go, 31, none⟩ = some (.int .u8 b31) := (by rw [HBB.out]; exact (Kd.R_celln 0 HR.out (31 : Int) (by omega) (by first | omega | (rw [LL.out]; omega) | (rw [LL.out]; decide))).1); have hf1 : w6.frozen? ⟨go, 31, none⟩ = false := (Kd.R_celln 0 HR.out (31 : Int) (by omega) (by first | omega | (rw [LL.out]; omega) | (rw [LL.out]; decide))).2; have HP31 := Aside0.mk ((Kd.R_putg HR.out (31 : Int) (b31 + 128)).1); clear hb hR))
    go_ret
    exact ⟨_, rfl, by rw [EE2.out]; exact HP31.out, below_set S.out.below GB.out⟩
  · have EE2 := Aside0.mk (EE.out.trans (if_neg hev))
    have hxi1 : ¬ (xb : Int) % 2 = 1 := by omega
    clear hev EE hxm ht1 ht2
    go_enter Try.func19, Try.ntmps19
    go_wp2_with (first
      | ((with_reducible refine gate_dst (N := 6) rfl ?_); refine ldm_arr rfl 41 (.tmp 5) rfl w.heap.size 32 rfl (fe R.z) (S.out.blk 0 rfl) (feQ_z _ _ _ _) Try.underlying41 (m := 16) (by kernel_rfl) (fe_length _) ?_)
      | ((with_reducible refine (HI.out _).mono ?_); rintro e w1 ⟨ci, hc, hm, rfl, hb⟩; have Hci := Aside0.mk hc; have Mci := Aside0.mk hm; have S := Aside0.mk (S.out.step hb); clear hb hc hm)
      | (refine st_arr rfl 41 (.tmp 3) (.tmp 7) rfl w1.heap.size (xs := fe ci) rfl rfl (blk_new w1 (.cells (arr .i64 z16) 41)) (m := 16) (by kernel_rfl) (fe_length _) (by rw [fe_length]; rfl) ?_; intro w2 h1 h2 h4 h3; have G := Aside0.mk h1; have S := Aside0.mk (St.other (S.out.alloc (.cells (arr .i64 z16) 41)) h2 h3 S.out.size); clear h1 h2 h3 h4)
      | ((with_reducible refine gate_dst (N := 9) rfl ?_); refine ldm_arr rfl 41 (.tmp 8) rfl w.heap.size 16 rfl (fe R.y) (S.out.blk 0 rfl) (feQ_y _ _ _ _) Try.underlying41 (m := 16) (by kernel_rfl) (fe_length _) ?_)
      | ((with_reducible refine gate_dst (N := 10) rfl ?_); refine ld_arr rfl 41 (.tmp 3) rfl w1.heap.size rfl G.out Try.underlying41 (m := 16) (by kernel_rfl) (fe_length _) ?_)
      | (clear T1; (with_reducible refine (HY.out _ _ Hci.out Mci.out).mono ?_); rintro e w3 ⟨cy, hc, hm, rfl, hb⟩; have Hcy := Aside0.mk hc; have Mcy := Aside0.mk hm; have S := Aside0.mk (S.out.step hb); have G := Aside0.mk (blk_below G.out hb); clear hb hc hm)
      | (clear T2; (with_reducible refine (HB.out _ _ yi Hcy.out Mcy.out).mono ?_); rintro e w4 ⟨v, rfl, hR, hb⟩; obtain ⟨go, co, eo, gb, _, _⟩ := Kd.R_form hR (by rw [limbs_length]; decide); rw [limbs_length] at eo; subst eo; have HR := Aside0.mk (Kd.R_lower hR (below_size S.out.below)); have GB := Aside0.mk (Nat.le_trans (below_size S.out.below) gb); have S := Aside0.mk (S.out.step hb); have G := Aside0.mk (blk_below G.out hb); clear hb hR gb)
      | ((with_reducible refine gate_dst (N := 14) rfl ?_); refine ldm_arr rfl 41 (.tmp 13) rfl w.heap.size 0 rfl (fe R.x) (S.out.blk 0 rfl) (feQ_x _ _ _ _) Try.underlying41 (m := 16) (by kernel_rfl) (fe_length _) ?_)
      | ((with_reducible refine gate_dst (N := 15) rfl ?_); refine ld_arr rfl 41 (.tmp 3) rfl w1.heap.size rfl G.out Try.underlying41 (m := 16) (by kernel_rfl) (fe_length _) ?_)
      | ((with_reducible refine (HX.out _ _ Hci.out Mci.out).mono ?_); rintro e w5 ⟨cx, hc, hm, rfl, hb⟩; have Hcx := Aside0.mk hc; have Mcx := Aside0.mk hm; have S := Aside0.mk (S.out.step hb); have HR := Aside0.mk (Kd.R_below HR.out hb); clear hb hc hm)
      | ((with_reducible refine (HB.out _ _ xi Hcx.out Mcx.out).mono ?_); rintro e w6 ⟨v2, rfl, hR, hb⟩; obtain ⟨gx, cx2, ex, _, _, _⟩ := Kd.R_form hR (by rw [limbs_length]; decide); rw [limbs_length] at ex; subst ex; have hx0 : w6.cell? ⟨gx, 0, none⟩ = some (.int .u8 (xb : Int)) := (by rw [← HXB.out]; exact (Kd.R_celln 0 hR (0 : Int) (by omega) (by first | omega | (rw [limbs_length]; decide))).1); have S := Aside0.mk (S.out.step hb); have HR := Aside0.mk (Kd.R_below HR.out hb); clear hb hR))
    go_ret
    exact ⟨_, rfl, by rw [EE2.out]; exact HR.out, S.out.below⟩
set_option maxHeartbeats 1000000 in
set_option maxRecDepth 100000 in
theorem l00byte.calls (g : Nat) (A : Option Addr) (c : Nat) (code : List Int) (a : Nat) (seed : Int) (w0 w : World) (hg : w.heap[g]? = some (.cells #[.slice A code.length c, .int .i64 (a : Int), .int .i64 seed] 58 (0, 0)))
    (hC : Kd.C (Kd.int .u8) w0 A code.length code) (hB : Below w0.heap.size w0 w) (hgb : w0.heap.size ≤ g) (ho : Ok 256 code) (ha : a < 1000000) (hs : 0 ≤ seed ∧ seed < 2147483648) (hl : code.length < 1099511627776) :
    Calls Try.prog 70 #[.pointer (some ⟨g, 0, none⟩)] w fun e w' => e = .returned (.int .i64 (byV code a seed)) ∧ w'.heap[g]? = some (.cells #[.slice A code.length c, .int .i64 ((a + 1 : Nat) : Int), .int .i64 (byS code a seed)] 58 (0, 0)) ∧ Ch g w w' := by
  have hB2 := hB
  have hs1 := hs.1
  have hs2 := hs.2
  obtain ⟨a1, ha1⟩ : ∃ a1 : Int, a1 = (a : Int) + 1 := ⟨_, rfl⟩
  have hq : (a : Int) + 1 = a1 := ha1.symm
  have ea : ((a + 1 : Nat) : Int) = a1 := by omega
  have hm : a1 - 1 = (a : Int) := by omega
  have k1a : 0 ≤ a1 := by omega
  have k1b : a1 ≤ 1000000 := by omega
  have m1 : w.cell? ⟨g, 1, none⟩ = some (.int .i64 (a : Int)) := (blk_cell hg 1).trans rfl
  have f1 := blk_frozen hg 1
  have G1 := Aside0.mk (blk_put hg 1 (.int .i64 a1) (cs' := #[.slice A code.length c, .int .i64 a1, .int .i64 seed]) rfl)
  have C1 := Aside0.mk ((Ch.refl g w).set 1 (.int .i64 a1))
  have HC1 := Aside0.mk (Kd.C_below hC (C1.out.bel _ _ hB hgb))
  rw [ea]
  have HCB := Aside0.mk (fun W (h : Ch g w W) => Kd.C_below hC (h.bel _ _ hB hgb))
  have HA := Aside0.mk ha
  have HG := Aside0.mk hg
  have HO := Aside0.mk ho
  clear hC hB hB2 hg hs hgb ho ea ha1 ha
  go_enter Try.func70, Try.ntmps70
  go_wp2
  generalize w.setCell ⟨g, 1, none⟩ (.int .i64 a1) = w1 at *
  have k0 : w1.cell? ⟨g, 0, none⟩ = some (.slice A code.length c) := (blk_cell G1.out 0).trans rfl
  have k1 : w1.cell? ⟨g, 1, none⟩ = some (.int .i64 a1) := (blk_cell G1.out 1).trans rfl
  have k2 : w1.cell? ⟨g, 2, none⟩ = some (.int .i64 seed) := (blk_cell G1.out 2).trans rfl
  have f2 := blk_frozen G1.out 2
  clear m1 f1
  by_cases hlt : a < code.length
  · have hle : a1 ≤ (code.length : Int) := by omega
    obtain ⟨ad, e1, kx⟩ := Kd.at_int HC1.out (a : Int) (by omega) (by omega)
    cases e1
    simp only [Int.toNat_natCast] at kx
    have hrx : rd code (a : Int) = code.getD a 0 := by simp [rd]
    rw [hrx] at kx
    have HRX := Aside0.mk hrx
    have hr := getD_range HO.out a hlt
    have EV := Aside0.mk (show byV code a seed = code.getD a 0 by unfold byV; rw [if_pos hlt])
    have ES := Aside0.mk (show byS code a seed = (seed * 31 + code.getD a 0 + 7) % 2147483648 by unfold byS; rw [if_pos hlt])
    generalize code.getD a 0 = x at *
    have hx0 := hr.1
    have hx1 : x < 256 := hr.2
    clear hr hrx
    obtain ⟨s1, hs3⟩ : ∃ s1, s1 = seed * 31 := ⟨_, rfl⟩
    have q1 : seed * 31 = s1 := hs3.symm
    obtain ⟨s2, hs4⟩ : ∃ s2, s2 = s1 + x := ⟨_, rfl⟩
    have q2 : s1 + x = s2 := hs4.symm
    obtain ⟨s3, hs5⟩ : ∃ s3, s3 = s2 + 7 := ⟨_, rfl⟩
    have q3 : s2 + 7 = s3 := hs5.symm
    obtain ⟨s4, hs6⟩ : ∃ s4, s4 = s3 % 2147483648 := ⟨_, rfl⟩
    have q4 : s3 % 2147483648 = s4 := hs6.symm
    have w1_ : IntKind.i64.wrap s1 = s1 := by rw [IntKind.wrap_i64]; omega
    have w2_ : IntKind.i64.wrap s2 = s2 := by rw [IntKind.wrap_i64]; omega
    have w3_ : IntKind.i64.wrap s3 = s3 := by rw [IntKind.wrap_i64]; omega
    have w4_ : IntKind.i64.wrap x = x := by rw [IntKind.wrap_i64]; omega
    have w6_ : IntKind.i64.wrap (a : Int) = (a : Int) := by rw [IntKind.wrap_i64]; omega
    have q5 : s3.tmod 2147483648 = s4 := by rw [Int.tmod_eq_emod_of_nonneg (by omega)]; exact q4
    have w5_ : IntKind.i64.wrap s4 = s4 := by rw [IntKind.wrap_i64]; omega
    have ha0 : (0 : Int) ≤ (a : Int) := by omega
    have hal : (a : Int) < (code.length : Int) := by omega
    rw [q1, q2, q3, q4] at ES
    clear hs3 hs4 hs5 hs6
    go_wp2
    refine start_ (n := 10) (S := fun w' => w'.cell? ⟨g, 0, none⟩ = some (.slice (some ad) code.length c) ∧ w'.cell? ⟨g, 1, none⟩ = some (.int .i64 a1)) (ds := []) #[false, false, false, false, false, false, false, false, false, false] (by kernel_rfl) rfl rfl ⟨k0, k1⟩ (fun hHeld => ?_)
    refine pure_ (i := 0) (N := some 10) (v := ?_) (a' := ?_) #[true, false, false, false, false, false, false, false, false, false] rfl rfl (by kernel_rfl) (fun _ _ _ h => h) (Or.inl ⟨by rfl, ?_⟩) ?_ ?_
    rotate_left
    · intro w'; go_simp; with_reducible rfl
    rotate_left
    · simp only [Act.put, OpenRow.s1, OpenRow.s2, OpenRow.s3, i64_w, i32_w]; rfl
    refine pure_ (i := 1) (N := some 11) (v := ?_) (a' := ?_) #[true, true, false, false, false, false, false, false, false, false] rfl rfl (by kernel_rfl) (fun _ _ _ h => h) (Or.inl ⟨by rfl, ?_⟩) ?_ ?_
    rotate_left
    · intro w'; go_simp; with_reducible rfl
    rotate_left
    · simp only [Act.put, OpenRow.s1, OpenRow.s2, OpenRow.s3, i64_w, i32_w]; rfl
    refine pure_ (i := 2) (N := some 12) (v := ?_) (a' := ?_) #[true, true, true, false, false, false, false, false, false, false] rfl rfl (by kernel_rfl) (fun _ _ _ h => h) (Or.inl ⟨by rfl, ?_⟩) ?_ ?_
    rotate_left
    · intro w'; go_simp; with_reducible rfl
    rotate_left
    · simp only [Act.put, OpenRow.s1, OpenRow.s2, OpenRow.s3, i64_w, i32_w]; rfl
    refine pure_ (i := 4) (N := some 14) (v := ?_) (a' := ?_) #[true, true, true, false, true, false, false, false, false, false] rfl rfl (by kernel_rfl) (fun _ _ _ h => h) (Or.inl ⟨by rfl, ?_⟩) ?_ ?_
    rotate_left
    · intro w'; go_simp; with_reducible rfl
    rotate_left
    · simp only [Act.put, OpenRow.s1, OpenRow.s2, OpenRow.s3, i64_w, i32_w]; rfl
    refine pure_ (i := 5) (N := some 15) (v := ?_) (a' := ?_) #[true, true, true, false, true, true, false, false, false, false] rfl rfl (by kernel_rfl) (fun _ _ _ h => h) (Or.inl ⟨by rfl, ?_⟩) ?_ ?_
    rotate_left
    · intro w'; go_simp; with_reducible rfl
    rotate_left
    · simp only [Act.put, OpenRow.s1, OpenRow.s2, OpenRow.s3, i64_w, i32_w]; rfl
    refine pure_ (i := 6) (N := some 16) (v := ?_) (a' := ?_) #[true, true, true, false, true, true, true, false, false, false] rfl rfl (by kernel_rfl) (fun _ _ _ h => h) (Or.inl ⟨by rfl, ?_⟩) ?_ ?_
    rotate_left
    · intro w'; go_simp; with_reducible rfl
    rotate_left
    · simp only [Act.put, OpenRow.s1, OpenRow.s2, OpenRow.s3, i64_w, i32_w]; rfl
    refine take_ (i := 3) (N := some 13) (v := ?_) (a' := ?_) #[true, true, true, true, true, true, true, false, false, false] rfl rfl (by kernel_rfl) (fun _ _ _ h => h) (Or.inl ⟨by rfl, ?_⟩) hHeld ?_ ?_
    rotate_left
    · rintro w' ⟨s0, s1⟩
      go_simp
      with_reducible rfl
    rotate_left
    · simp only [Act.put, OpenRow.s1, OpenRow.s2, OpenRow.s3, i64_w, i32_w]; rfl
    refine take_ (i := 7) (N := some 17) (v := ?_) (a' := ?_) #[true, true, true, true, true, true, true, true, false, false] rfl rfl (by kernel_rfl) (fun _ _ _ h => h) (Or.inl ⟨by rfl, ?_⟩) hHeld ?_ ?_
    rotate_left
    · rintro w' ⟨s0, s1⟩
      go_simp
      with_reducible rfl
    rotate_left
    · simp only [Act.put, OpenRow.s1, OpenRow.s2, OpenRow.s3, i64_w, i32_w]; rfl
    refine pure_ (i := 8) (N := some 18) (v := ?_) (a' := ?_) #[true, true, true, true, true, true, true, true, true, false] rfl rfl (by kernel_rfl) (fun _ _ _ h => h) (Or.inl ⟨by rfl, ?_⟩) ?_ ?_
    rotate_left
    · intro w'; go_simp; with_reducible rfl
    rotate_left
    · simp only [Act.put, OpenRow.s1, OpenRow.s2, OpenRow.s3, i64_w, i32_w]; rfl
    refine pure_ (i := 9) (N := some 19) (v := ?_) (a' := ?_) #[true, true, true, true, true, true, true, true, true, true] rfl rfl (by kernel_rfl) (fun _ _ _ h => h) (Or.inl ⟨by rfl, ?_⟩) ?_ ?_
    rotate_left
    · intro w'; go_simp; with_reducible rfl
    rotate_left
    · simp only [Act.put, OpenRow.s1, OpenRow.s2, OpenRow.s3, i64_w, i32_w]; rfl
    refine done_ (by kernel_rfl) ?_
    have G2 := Aside0.mk (blk_drew G1.out)
    have C2 := Aside0.mk C1.out.drew
    have n0 : w1.drew.cell? ⟨g, 0, none⟩ = some (.slice (some ad) code.length c) := k0
    have n1 : w1.drew.cell? ⟨g, 1, none⟩ = some (.int .i64 a1) := k1
    have n2 : w1.drew.cell? ⟨g, 2, none⟩ = some (.int .i64 seed) := k2
    have g2 : w1.drew.frozen? ⟨g, 2, none⟩ = false := f2
    have nx : w1.drew.cell? (ad.add a) = some (.int .u8 x) := kx
    clear k0 k1 k2 f2 kx C1 G1 HC1
    generalize w1.drew = w2 at *
    have k0 := n0
    have k1 := n1
    have k2 := n2
    have f2 := g2
    have kx := nx
    clear n0 n1 n2 g2 nx
    go_wp2
    refine start_ (n := 24) (S := fun w' => w'.cell? ⟨g, 0, none⟩ = some (.slice (some ad) code.length c) ∧ w'.cell? ⟨g, 1, none⟩ = some (.int .i64 a1) ∧ w'.cell? ⟨g, 2, none⟩ = some (.int .i64 seed) ∧ w'.cell? (ad.add a) = some (.int .u8 x)) (ds := [23]) #[false, false, false, false, false, false, false, false, false, false, false, false, false, false, false, false, false, false, false, false, false, false, false, false] (by kernel_rfl) rfl rfl ⟨k0, k1, k2, kx⟩ (fun hHeld => ?_)
    refine pure_ (i := 0) (N := some 20) (v := ?_) (a' := ?_) #[true, false, false, false, false, false, false, false, false, false, false, false, false, false, false, false, false, false, false, false, false, false, false, false] rfl rfl (by kernel_rfl) (fun _ _ _ h => h) (Or.inl ⟨by rfl, ?_⟩) ?_ ?_
    rotate_left
    · intro w'; go_simp; with_reducible rfl
    rotate_left
    · simp only [Act.put, OpenRow.s1, OpenRow.s2, OpenRow.s3, i64_w, i32_w]; rfl
    refine pure_ (i := 1) (N := some 21) (v := ?_) (a' := ?_) #[true, true, false, false, false, false, false, false, false, false, false, false, false, false, false, false, false, false, false, false, false, false, false, false] rfl rfl (by kernel_rfl) (fun _ _ _ h => h) (Or.inl ⟨by rfl, ?_⟩) ?_ ?_
    rotate_left
    · intro w'; go_simp; with_reducible rfl
    rotate_left
    · simp only [Act.put, OpenRow.s1, OpenRow.s2, OpenRow.s3, i64_w, i32_w]; rfl
    refine pure_ (i := 2) (N := some 22) (v := ?_) (a' := ?_) #[true, true, true, false, false, false, false, false, false, false, false, false, false, false, false, false, false, false, false, false, false, false, false, false] rfl rfl (by kernel_rfl) (fun _ _ _ h => h) (Or.inl ⟨by rfl, ?_⟩) ?_ ?_
    rotate_left
    · intro w'; go_simp; with_reducible rfl
    rotate_left
    · simp only [Act.put, OpenRow.s1, OpenRow.s2, OpenRow.s3, i64_w, i32_w]; rfl
    refine pure_ (i := 3) (N := some 23) (v := ?_) (a' := ?_) #[true, true, true, true, false, false, false, false, false, false, false, false, false, false, false, false, false, false, false, false, false, false, false, false] rfl rfl (by kernel_rfl) (fun _ _ _ h => h) (Or.inl ⟨by rfl, ?_⟩) ?_ ?_
    rotate_left
    · intro w'; go_simp; with_reducible rfl
    rotate_left
    · simp only [Act.put, OpenRow.s1, OpenRow.s2, OpenRow.s3, i64_w, i32_w]; rfl
    refine pure_ (i := 6) (N := some 26) (v := ?_) (a' := ?_) #[true, true, true, true, false, false, true, false, false, false, false, false, false, false, false, false, false, false, false, false, false, false, false, false] rfl rfl (by kernel_rfl) (fun _ _ _ h => h) (Or.inl ⟨by rfl, ?_⟩) ?_ ?_
    rotate_left
    · intro w'; go_simp; with_reducible rfl
    rotate_left
    · simp only [Act.put, OpenRow.s1, OpenRow.s2, OpenRow.s3, i64_w, i32_w]; rfl
    refine pure_ (i := 7) (N := some 27) (v := ?_) (a' := ?_) #[true, true, true, true, false, false, true, true, false, false, false, false, false, false, false, false, false, false, false, false, false, false, false, false] rfl rfl (by kernel_rfl) (fun _ _ _ h => h) (Or.inl ⟨by rfl, ?_⟩) ?_ ?_
    rotate_left
    · intro w'; go_simp; with_reducible rfl
    rotate_left
    · simp only [Act.put, OpenRow.s1, OpenRow.s2, OpenRow.s3, i64_w, i32_w]; rfl
    refine pure_ (i := 8) (N := some 28) (v := ?_) (a' := ?_) #[true, true, true, true, false, false, true, true, true, false, false, false, false, false, false, false, false, false, false, false, false, false, false, false] rfl rfl (by kernel_rfl) (fun _ _ _ h => h) (Or.inl ⟨by rfl, ?_⟩) ?_ ?_
    rotate_left
    · intro w'; go_simp; with_reducible rfl
    rotate_left
    · simp only [Act.put, OpenRow.s1, OpenRow.s2, OpenRow.s3, i64_w, i32_w]; rfl
    refine pure_ (i := 10) (N := some 30) (v := ?_) (a' := ?_) #[true, true, true, true, false, false, true, true, true, false, true, false, false, false, false, false, false, false, false, false, false, false, false, false] rfl rfl (by kernel_rfl) (fun _ _ _ h => h) (Or.inl ⟨by rfl, ?_⟩) ?_ ?_
    rotate_left
    · intro w'; go_simp; with_reducible rfl
    rotate_left
    · simp only [Act.put, OpenRow.s1, OpenRow.s2, OpenRow.s3, i64_w, i32_w]; rfl
    refine pure_ (i := 11) (N := some 31) (v := ?_) (a' := ?_) #[true, true, true, true, false, false, true, true, true, false, true, true, false, false, false, false, false, false, false, false, false, false, false, false] rfl rfl (by kernel_rfl) (fun _ _ _ h => h) (Or.inl ⟨by rfl, ?_⟩) ?_ ?_
    rotate_left
    · intro w'; go_simp; with_reducible rfl
    rotate_left
    · simp only [Act.put, OpenRow.s1, OpenRow.s2, OpenRow.s3, i64_w, i32_w]; rfl
    refine pure_ (i := 12) (N := some 32) (v := ?_) (a' := ?_) #[true, true, true, true, false, false, true, true, true, false, true, true, true, false, false, false, false, false, false, false, false, false, false, false] rfl rfl (by kernel_rfl) (fun _ _ _ h => h) (Or.inl ⟨by rfl, ?_⟩) ?_ ?_
    rotate_left
    · intro w'; go_simp; with_reducible rfl
    rotate_left
    · simp only [Act.put, OpenRow.s1, OpenRow.s2, OpenRow.s3, i64_w, i32_w]; rfl
    refine take_ (i := 4) (N := some 24) (v := ?_) (a' := ?_) #[true, true, true, true, true, false, true, true, true, false, true, true, true, false, false, false, false, false, false, false, false, false, false, false] rfl rfl (by kernel_rfl) (fun _ _ _ h => h) (Or.inl ⟨by rfl, ?_⟩) hHeld ?_ ?_
    rotate_left
    · rintro w' ⟨s0, s1, s2, s3⟩
      go_simp
      with_reducible rfl
    rotate_left
    · simp only [Act.put, OpenRow.s1, OpenRow.s2, OpenRow.s3, i64_w, i32_w]; rfl
    refine pure_ (i := 5) (N := some 25) (v := ?_) (a' := ?_) #[true, true, true, true, true, true, true, true, true, false, true, true, true, false, false, false, false, false, false, false, false, false, false, false] rfl rfl (by kernel_rfl) (fun _ _ _ h => h) (Or.inl ⟨by rfl, ?_⟩) ?_ ?_
    rotate_left
    · intro w'; go_simp; with_reducible rfl
    rotate_left
    · simp only [Act.put, OpenRow.s1, OpenRow.s2, OpenRow.s3, i64_w, i32_w]; rfl
    refine take_ (i := 9) (N := some 29) (v := ?_) (a' := ?_) #[true, true, true, true, true, true, true, true, true, true, true, true, true, false, false, false, false, false, false, false, false, false, false, false] rfl rfl (by kernel_rfl) (fun _ _ _ h => h) (Or.inl ⟨by rfl, ?_⟩) hHeld ?_ ?_
    rotate_left
    · rintro w' ⟨s0, s1, s2, s3⟩
      go_simp
      with_reducible rfl
    rotate_left
    · simp only [Act.put, OpenRow.s1, OpenRow.s2, OpenRow.s3, i64_w, i32_w]; rfl
    refine take_ (i := 13) (N := some 33) (v := ?_) (a' := ?_) #[true, true, true, true, true, true, true, true, true, true, true, true, true, true, false, false, false, false, false, false, false, false, false, false] rfl rfl (by kernel_rfl) (fun _ _ _ h => h) (Or.inl ⟨by rfl, ?_⟩) hHeld ?_ ?_
    rotate_left
    · rintro w' ⟨s0, s1, s2, s3⟩
      go_simp
      with_reducible rfl
    rotate_left
    · simp only [Act.put, OpenRow.s1, OpenRow.s2, OpenRow.s3, i64_w, i32_w]; rfl
    refine pure_ (i := 14) (N := some 34) (v := ?_) (a' := ?_) #[true, true, true, true, true, true, true, true, true, true, true, true, true, true, true, false, false, false, false, false, false, false, false, false] rfl rfl (by kernel_rfl) (fun _ _ _ h => h) (Or.inl ⟨by rfl, ?_⟩) ?_ ?_
    rotate_left
    · intro w'; go_simp; with_reducible rfl
    rotate_left
    · simp only [Act.put, OpenRow.s1, OpenRow.s2, OpenRow.s3, i64_w, i32_w]; rfl
    refine pure_ (i := 15) (N := some 35) (v := ?_) (a' := ?_) #[true, true, true, true, true, true, true, true, true, true, true, true, true, true, true, true, false, false, false, false, false, false, false, false] rfl rfl (by kernel_rfl) (fun _ _ _ h => h) (Or.inl ⟨by rfl, ?_⟩) ?_ ?_
    rotate_left
    · intro w'; go_simp; with_reducible rfl
    rotate_left
    · simp only [Act.put, OpenRow.s1, OpenRow.s2, OpenRow.s3, i64_w, i32_w]; rfl
    refine take_ (i := 16) (N := some 36) (v := ?_) (a' := ?_) #[true, true, true, true, true, true, true, true, true, true, true, true, true, true, true, true, true, false, false, false, false, false, false, false] rfl rfl (by kernel_rfl) (fun _ _ _ h => h) (Or.inl ⟨by rfl, ?_⟩) hHeld ?_ ?_
    rotate_left
    · rintro w' ⟨s0, s1, s2, s3⟩
      go_simp
      with_reducible rfl
    rotate_left
    · simp only [Act.put, OpenRow.s1, OpenRow.s2, OpenRow.s3, i64_w, i32_w]; rfl
    refine pure_ (i := 17) (N := some 37) (v := ?_) (a' := ?_) #[true, true, true, true, true, true, true, true, true, true, true, true, true, true, true, true, true, true, false, false, false, false, false, false] rfl rfl (by kernel_rfl) (fun _ _ _ h => h) (Or.inl ⟨by rfl, ?_⟩) ?_ ?_
    rotate_left
    · intro w'; go_simp; with_reducible rfl
    rotate_left
    · simp only [Act.put, OpenRow.s1, OpenRow.s2, OpenRow.s3, i64_w, i32_w]; rfl
    refine pure_ (i := 18) (N := some 38) (v := ?_) (a' := ?_) #[true, true, true, true, true, true, true, true, true, true, true, true, true, true, true, true, true, true, true, false, false, false, false, false] rfl rfl (by kernel_rfl) (fun _ _ _ h => h) (Or.inl ⟨by rfl, ?_⟩) ?_ ?_
    rotate_left
    · intro w'; go_simp; with_reducible rfl
    rotate_left
    · simp only [Act.put, OpenRow.s1, OpenRow.s2, OpenRow.s3, i64_w, i32_w]; rfl
    refine pure_ (i := 19) (N := some 39) (v := ?_) (a' := ?_) #[true, true, true, true, true, true, true, true, true, true, true, true, true, true, true, true, true, true, true, true, false, false, false, false] rfl rfl (by kernel_rfl) (fun _ _ _ h => h) (Or.inl ⟨by rfl, ?_⟩) ?_ ?_
    rotate_left
    · intro w'; go_simp; with_reducible rfl
    rotate_left
    · simp only [Act.put, OpenRow.s1, OpenRow.s2, OpenRow.s3, i64_w, i32_w]; rfl
    refine pure_ (i := 20) (N := some 40) (v := ?_) (a' := ?_) #[true, true, true, true, true, true, true, true, true, true, true, true, true, true, true, true, true, true, true, true, true, false, false, false] rfl rfl (by kernel_rfl) (fun _ _ _ h => h) (Or.inl ⟨by rfl, ?_⟩) ?_ ?_
    rotate_left
    · intro w'; go_simp; with_reducible rfl
    rotate_left
    · simp only [Act.put, OpenRow.s1, OpenRow.s2, OpenRow.s3, i64_w, i32_w]; rfl
    refine pure_ (i := 21) (N := some 41) (v := ?_) (a' := ?_) #[true, true, true, true, true, true, true, true, true, true, true, true, true, true, true, true, true, true, true, true, true, true, false, false] rfl rfl (by kernel_rfl) (fun _ _ _ h => h) (Or.inl ⟨by rfl, ?_⟩) ?_ ?_
    rotate_left
    · intro w'; go_simp; with_reducible rfl
    rotate_left
    · simp only [Act.put, OpenRow.s1, OpenRow.s2, OpenRow.s3, i64_w, i32_w]; rfl
    refine pure_ (i := 22) (N := some 42) (v := ?_) (a' := ?_) #[true, true, true, true, true, true, true, true, true, true, true, true, true, true, true, true, true, true, true, true, true, true, true, false] rfl rfl (by kernel_rfl) (fun _ _ _ h => h) (Or.inl ⟨by rfl, ?_⟩) ?_ ?_
    rotate_left
    · intro w'; go_simp; with_reducible rfl
    rotate_left
    · simp only [Act.put, OpenRow.s1, OpenRow.s2, OpenRow.s3, i64_w, i32_w]; rfl
    refine last_ (i := 23) (N := none) #[true, true, true, true, true, true, true, true, true, true, true, true, true, true, true, true, true, true, true, true, true, true, true, true] rfl rfl (by kernel_rfl) (by decide) (fun K hK => ?_)
    refine skip_ (w1 := ?_) (by rfl) rfl ?_ ?_
    rotate_left
    · go_simp
      rfl
    refine hK.out _ _ ?_
    clear hK K
    refine done_ (by kernel_rfl) ?_
    have G3 := Aside0.mk (blk_drew (blk_put G2.out 2 (.int .i64 s4) (cs' := #[.slice (some ad) code.length c, .int .i64 a1, .int .i64 s4]) rfl))
    have C3 := Aside0.mk (C2.out.set 2 (.int .i64 s4)).drew
    have kx2 : (w2.setCell ⟨g, 2, none⟩ (.int .i64 s4)).drew.cell? (ad.add a) = some (.int .u8 x) := by
      obtain ⟨ad2, e2, kx2⟩ := Kd.at_int (HCB.out _ C3.out) (a : Int) (by omega) (by omega)
      cases e2
      simp only [Int.toNat_natCast] at kx2
      rw [HRX.out] at kx2
      exact kx2
    clear k0 k1 k2 f2 kx G2 C2
    generalize (w2.setCell ⟨g, 2, none⟩ (.int .i64 s4)).drew = w3 at *
    have k0 : w3.cell? ⟨g, 0, none⟩ = some (.slice (some ad) code.length c) := (blk_cell G3.out 0).trans rfl
    have k1 : w3.cell? ⟨g, 1, none⟩ = some (.int .i64 a1) := (blk_cell G3.out 1).trans rfl
    have kx := kx2
    clear kx2
    go_wp2
    refine start_ (n := 13) (S := fun w' => w'.cell? ⟨g, 0, none⟩ = some (.slice (some ad) code.length c) ∧ w'.cell? ⟨g, 1, none⟩ = some (.int .i64 a1) ∧ w'.cell? (ad.add a) = some (.int .u8 x)) (ds := []) #[false, false, false, false, false, false, false, false, false, false, false, false, false] (by kernel_rfl) rfl rfl ⟨k0, k1, kx⟩ (fun hHeld => ?_)
    refine pure_ (i := 0) (N := some 43) (v := ?_) (a' := ?_) #[true, false, false, false, false, false, false, false, false, false, false, false, false] rfl rfl (by kernel_rfl) (fun _ _ _ h => h) (Or.inl ⟨by rfl, ?_⟩) ?_ ?_
    rotate_left
    · intro w'; go_simp; with_reducible rfl
    rotate_left
    · simp only [Act.put, OpenRow.s1, OpenRow.s2, OpenRow.s3, i64_w, i32_w]; rfl
    refine pure_ (i := 1) (N := some 44) (v := ?_) (a' := ?_) #[true, true, false, false, false, false, false, false, false, false, false, false, false] rfl rfl (by kernel_rfl) (fun _ _ _ h => h) (Or.inl ⟨by rfl, ?_⟩) ?_ ?_
    rotate_left
    · intro w'; go_simp; with_reducible rfl
    rotate_left
    · simp only [Act.put, OpenRow.s1, OpenRow.s2, OpenRow.s3, i64_w, i32_w]; rfl
    refine pure_ (i := 2) (N := some 45) (v := ?_) (a' := ?_) #[true, true, true, false, false, false, false, false, false, false, false, false, false] rfl rfl (by kernel_rfl) (fun _ _ _ h => h) (Or.inl ⟨by rfl, ?_⟩) ?_ ?_
    rotate_left
    · intro w'; go_simp; with_reducible rfl
    rotate_left
    · simp only [Act.put, OpenRow.s1, OpenRow.s2, OpenRow.s3, i64_w, i32_w]; rfl
    refine pure_ (i := 4) (N := some 47) (v := ?_) (a' := ?_) #[true, true, true, false, true, false, false, false, false, false, false, false, false] rfl rfl (by kernel_rfl) (fun _ _ _ h => h) (Or.inl ⟨by rfl, ?_⟩) ?_ ?_
    rotate_left
    · intro w'; go_simp; with_reducible rfl
    rotate_left
    · simp only [Act.put, OpenRow.s1, OpenRow.s2, OpenRow.s3, i64_w, i32_w]; rfl
    refine pure_ (i := 5) (N := some 48) (v := ?_) (a' := ?_) #[true, true, true, false, true, true, false, false, false, false, false, false, false] rfl rfl (by kernel_rfl) (fun _ _ _ h => h) (Or.inl ⟨by rfl, ?_⟩) ?_ ?_
    rotate_left
    · intro w'; go_simp; with_reducible rfl
    rotate_left
    · simp only [Act.put, OpenRow.s1, OpenRow.s2, OpenRow.s3, i64_w, i32_w]; rfl
    refine pure_ (i := 6) (N := some 49) (v := ?_) (a' := ?_) #[true, true, true, false, true, true, true, false, false, false, false, false, false] rfl rfl (by kernel_rfl) (fun _ _ _ h => h) (Or.inl ⟨by rfl, ?_⟩) ?_ ?_
    rotate_left
    · intro w'; go_simp; with_reducible rfl
    rotate_left
    · simp only [Act.put, OpenRow.s1, OpenRow.s2, OpenRow.s3, i64_w, i32_w]; rfl
    refine take_ (i := 3) (N := some 46) (v := ?_) (a' := ?_) #[true, true, true, true, true, true, true, false, false, false, false, false, false] rfl rfl (by kernel_rfl) (fun _ _ _ h => h) (Or.inl ⟨by rfl, ?_⟩) hHeld ?_ ?_
    rotate_left
    · rintro w' ⟨s0, s1, s2⟩
      go_simp
      with_reducible rfl
    rotate_left
    · simp only [Act.put, OpenRow.s1, OpenRow.s2, OpenRow.s3, i64_w, i32_w]; rfl
    refine take_ (i := 7) (N := some 50) (v := ?_) (a' := ?_) #[true, true, true, true, true, true, true, true, false, false, false, false, false] rfl rfl (by kernel_rfl) (fun _ _ _ h => h) (Or.inl ⟨by rfl, ?_⟩) hHeld ?_ ?_
    rotate_left
    · rintro w' ⟨s0, s1, s2⟩
      go_simp
      with_reducible rfl
    rotate_left
    · simp only [Act.put, OpenRow.s1, OpenRow.s2, OpenRow.s3, i64_w, i32_w]; rfl
    refine pure_ (i := 8) (N := some 51) (v := ?_) (a' := ?_) #[true, true, true, true, true, true, true, true, true, false, false, false, false] rfl rfl (by kernel_rfl) (fun _ _ _ h => h) (Or.inl ⟨by rfl, ?_⟩) ?_ ?_
    rotate_left
    · intro w'; go_simp; with_reducible rfl
    rotate_left
    · simp only [Act.put, OpenRow.s1, OpenRow.s2, OpenRow.s3, i64_w, i32_w]; rfl
    refine pure_ (i := 9) (N := some 52) (v := ?_) (a' := ?_) #[true, true, true, true, true, true, true, true, true, true, false, false, false] rfl rfl (by kernel_rfl) (fun _ _ _ h => h) (Or.inl ⟨by rfl, ?_⟩) ?_ ?_
    rotate_left
    · intro w'; go_simp; with_reducible rfl
    rotate_left
    · simp only [Act.put, OpenRow.s1, OpenRow.s2, OpenRow.s3, i64_w, i32_w]; rfl
    refine take_ (i := 10) (N := some 53) (v := ?_) (a' := ?_) #[true, true, true, true, true, true, true, true, true, true, true, false, false] rfl rfl (by kernel_rfl) (fun _ _ _ h => h) (Or.inl ⟨by rfl, ?_⟩) hHeld ?_ ?_
    rotate_left
    · rintro w' ⟨s0, s1, s2⟩
      go_simp
      with_reducible rfl
    rotate_left
    · simp only [Act.put, OpenRow.s1, OpenRow.s2, OpenRow.s3, i64_w, i32_w]; rfl
    refine pure_ (i := 11) (N := some 54) (v := ?_) (a' := ?_) #[true, true, true, true, true, true, true, true, true, true, true, true, false] rfl rfl (by kernel_rfl) (fun _ _ _ h => h) (Or.inl ⟨by rfl, ?_⟩) ?_ ?_
    rotate_left
    · intro w'; go_simp; with_reducible rfl
    rotate_left
    · simp only [Act.put, OpenRow.s1, OpenRow.s2, OpenRow.s3, i64_w, i32_w]; rfl
    refine pure_ (i := 12) (N := some 2) (v := ?_) (a' := ?_) #[true, true, true, true, true, true, true, true, true, true, true, true, true] rfl rfl (by kernel_rfl) (fun _ _ _ h => h) (Or.inl ⟨by rfl, ?_⟩) ?_ ?_
    rotate_left
    · intro w'; go_simp; with_reducible rfl
    rotate_left
    · simp only [Act.put, OpenRow.s1, OpenRow.s2, OpenRow.s3, i64_w, i32_w]; rfl
    refine done_ (by kernel_rfl) ?_
    go_wp2
    go_ret
    exact ⟨by rw [EV.out]; rfl, by rw [ES.out]; exact blk_drew G3.out, C3.out.drew⟩
  · have hle : ¬ a1 ≤ (code.length : Int) := by omega
    clear HC1
    by_cases h3 : 3000 ≤ a
    · have EV := Aside0.mk (show byV code a seed = 0 by unfold byV; rw [if_neg hlt, if_pos h3])
      have ES := Aside0.mk (show byS code a seed = seed by unfold byS; rw [if_neg hlt, if_pos h3])
      have h4 : a1 > 3000 := by omega
      go_wp2
      refine start_ (n := 10) (S := fun w' => w'.cell? ⟨g, 0, none⟩ = some (.slice A code.length c) ∧ w'.cell? ⟨g, 1, none⟩ = some (.int .i64 a1)) (ds := []) #[false, false, false, false, false, false, false, false, false, false] (by kernel_rfl) rfl rfl ⟨k0, k1⟩ (fun hHeld => ?_)
      refine pure_ (i := 0) (N := some 10) (v := ?_) (a' := ?_) #[true, false, false, false, false, false, false, false, false, false] rfl rfl (by kernel_rfl) (fun _ _ _ h => h) (Or.inl ⟨by rfl, ?_⟩) ?_ ?_
      rotate_left
      · intro w'; go_simp; with_reducible rfl
      rotate_left
      · simp only [Act.put, OpenRow.s1, OpenRow.s2, OpenRow.s3, i64_w, i32_w]; rfl
      refine pure_ (i := 1) (N := some 11) (v := ?_) (a' := ?_) #[true, true, false, false, false, false, false, false, false, false] rfl rfl (by kernel_rfl) (fun _ _ _ h => h) (Or.inl ⟨by rfl, ?_⟩) ?_ ?_
      rotate_left
      · intro w'; go_simp; with_reducible rfl
      rotate_left
      · simp only [Act.put, OpenRow.s1, OpenRow.s2, OpenRow.s3, i64_w, i32_w]; rfl
      refine pure_ (i := 2) (N := some 12) (v := ?_) (a' := ?_) #[true, true, true, false, false, false, false, false, false, false] rfl rfl (by kernel_rfl) (fun _ _ _ h => h) (Or.inl ⟨by rfl, ?_⟩) ?_ ?_
      rotate_left
      · intro w'; go_simp; with_reducible rfl
      rotate_left
      · simp only [Act.put, OpenRow.s1, OpenRow.s2, OpenRow.s3, i64_w, i32_w]; rfl
      refine pure_ (i := 4) (N := some 14) (v := ?_) (a' := ?_) #[true, true, true, false, true, false, false, false, false, false] rfl rfl (by kernel_rfl) (fun _ _ _ h => h) (Or.inl ⟨by rfl, ?_⟩) ?_ ?_
      rotate_left
      · intro w'; go_simp; with_reducible rfl
      rotate_left
      · simp only [Act.put, OpenRow.s1, OpenRow.s2, OpenRow.s3, i64_w, i32_w]; rfl
      refine pure_ (i := 5) (N := some 15) (v := ?_) (a' := ?_) #[true, true, true, false, true, true, false, false, false, false] rfl rfl (by kernel_rfl) (fun _ _ _ h => h) (Or.inl ⟨by rfl, ?_⟩) ?_ ?_
      rotate_left
      · intro w'; go_simp; with_reducible rfl
      rotate_left
      · simp only [Act.put, OpenRow.s1, OpenRow.s2, OpenRow.s3, i64_w, i32_w]; rfl
      refine pure_ (i := 6) (N := some 16) (v := ?_) (a' := ?_) #[true, true, true, false, true, true, true, false, false, false] rfl rfl (by kernel_rfl) (fun _ _ _ h => h) (Or.inl ⟨by rfl, ?_⟩) ?_ ?_
      rotate_left
      · intro w'; go_simp; with_reducible rfl
      rotate_left
      · simp only [Act.put, OpenRow.s1, OpenRow.s2, OpenRow.s3, i64_w, i32_w]; rfl
      refine take_ (i := 3) (N := some 13) (v := ?_) (a' := ?_) #[true, true, true, true, true, true, true, false, false, false] rfl rfl (by kernel_rfl) (fun _ _ _ h => h) (Or.inl ⟨by rfl, ?_⟩) hHeld ?_ ?_
      rotate_left
      · rintro w' ⟨s0, s1⟩
        go_simp
        with_reducible rfl
      rotate_left
      · simp only [Act.put, OpenRow.s1, OpenRow.s2, OpenRow.s3, i64_w, i32_w]; rfl
      refine take_ (i := 7) (N := some 17) (v := ?_) (a' := ?_) #[true, true, true, true, true, true, true, true, false, false] rfl rfl (by kernel_rfl) (fun _ _ _ h => h) (Or.inl ⟨by rfl, ?_⟩) hHeld ?_ ?_
      rotate_left
      · rintro w' ⟨s0, s1⟩
        go_simp
        with_reducible rfl
      rotate_left
      · simp only [Act.put, OpenRow.s1, OpenRow.s2, OpenRow.s3, i64_w, i32_w]; rfl
      refine pure_ (i := 8) (N := some 18) (v := ?_) (a' := ?_) #[true, true, true, true, true, true, true, true, true, false] rfl rfl (by kernel_rfl) (fun _ _ _ h => h) (Or.inl ⟨by rfl, ?_⟩) ?_ ?_
      rotate_left
      · intro w'; go_simp; with_reducible rfl
      rotate_left
      · simp only [Act.put, OpenRow.s1, OpenRow.s2, OpenRow.s3, i64_w, i32_w]; rfl
      refine pure_ (i := 9) (N := some 19) (v := ?_) (a' := ?_) #[true, true, true, true, true, true, true, true, true, true] rfl rfl (by kernel_rfl) (fun _ _ _ h => h) (Or.inl ⟨by rfl, ?_⟩) ?_ ?_
      rotate_left
      · intro w'; go_simp; with_reducible rfl
      rotate_left
      · simp only [Act.put, OpenRow.s1, OpenRow.s2, OpenRow.s3, i64_w, i32_w]; rfl
      refine done_ (by kernel_rfl) ?_
      have G2 := Aside0.mk (blk_drew G1.out)
      have C2 := Aside0.mk C1.out.drew
      have n0 : w1.drew.cell? ⟨g, 0, none⟩ = some (.slice A code.length c) := k0
      have n1 : w1.drew.cell? ⟨g, 1, none⟩ = some (.int .i64 a1) := k1
      have n2 : w1.drew.cell? ⟨g, 2, none⟩ = some (.int .i64 seed) := k2
      have g2 : w1.drew.frozen? ⟨g, 2, none⟩ = false := f2
      clear k0 k1 k2 f2 C1 G1
      generalize w1.drew = w2 at *
      have k1 := n1
      clear n0 n1 n2 g2
      go_wp2
      go_ret
      exact ⟨by rw [EV.out]; rfl, by rw [ES.out]; exact G2.out, C2.out⟩
    · have EV := Aside0.mk (show byV code a seed = (seed * 1103515245 + 12345) % 2147483648 / 65536 % 256 by unfold byV; rw [if_neg hlt, if_neg h3])
      have ES := Aside0.mk (show byS code a seed = (seed * 1103515245 + 12345) % 2147483648 by unfold byS; rw [if_neg hlt, if_neg h3])
      have h4 : ¬ a1 > 3000 := by omega
      obtain ⟨s1, hs3⟩ : ∃ s1, s1 = seed * 1103515245 := ⟨_, rfl⟩
      have q1 : seed * 1103515245 = s1 := hs3.symm
      obtain ⟨s2, hs4⟩ : ∃ s2, s2 = s1 + 12345 := ⟨_, rfl⟩
      have q2 : s1 + 12345 = s2 := hs4.symm
      obtain ⟨s4, hs6⟩ : ∃ s4, s4 = s2 % 2147483648 := ⟨_, rfl⟩
      have q4 : s2 % 2147483648 = s4 := hs6.symm
      obtain ⟨s5, hs7⟩ : ∃ s5, s5 = s4 / 65536 := ⟨_, rfl⟩
      have q6 : s4 / 65536 = s5 := hs7.symm
      obtain ⟨s6, hs8⟩ : ∃ s6, s6 = s5 % 256 := ⟨_, rfl⟩
      have q7 : s5 % 256 = s6 := hs8.symm
      have w1_ : IntKind.i64.wrap s1 = s1 := by rw [IntKind.wrap_i64]; omega
      have w2_ : IntKind.i64.wrap s2 = s2 := by rw [IntKind.wrap_i64]; omega
      have w4_ : IntKind.i64.wrap s4 = s4 := by rw [IntKind.wrap_i64]; omega
      have w5_ : IntKind.i64.wrap s5 = s5 := by rw [IntKind.wrap_i64]; omega
      have w6_ : IntKind.i64.wrap s6 = s6 := by rw [IntKind.wrap_i64]; omega
      have q5 : s2.tmod 2147483648 = s4 := by rw [Int.tmod_eq_emod_of_nonneg (by omega)]; exact q4
      have q8 : s4.tdiv 65536 = s5 := by rw [Int.tdiv_eq_ediv_of_nonneg (by omega)]; exact q6
      have q9 : s5.tmod 256 = s6 := by rw [Int.tmod_eq_emod_of_nonneg (by omega)]; exact q7
      have z1 : 0 ≤ s2 := by omega
      have z4 : 0 ≤ s4 := by omega
      have z5 : 0 ≤ s5 := by omega
      rw [q1, q2, q4] at ES EV
      rw [q6, q7] at EV
      clear hs3 hs4 hs6 hs7 hs8
      go_wp2
      refine start_ (n := 10) (S := fun w' => w'.cell? ⟨g, 0, none⟩ = some (.slice A code.length c) ∧ w'.cell? ⟨g, 1, none⟩ = some (.int .i64 a1)) (ds := []) #[false, false, false, false, false, false, false, false, false, false] (by kernel_rfl) rfl rfl ⟨k0, k1⟩ (fun hHeld => ?_)
      refine pure_ (i := 0) (N := some 10) (v := ?_) (a' := ?_) #[true, false, false, false, false, false, false, false, false, false] rfl rfl (by kernel_rfl) (fun _ _ _ h => h) (Or.inl ⟨by rfl, ?_⟩) ?_ ?_
      rotate_left
      · intro w'; go_simp; with_reducible rfl
      rotate_left
      · simp only [Act.put, OpenRow.s1, OpenRow.s2, OpenRow.s3, i64_w, i32_w]; rfl
      refine pure_ (i := 1) (N := some 11) (v := ?_) (a' := ?_) #[true, true, false, false, false, false, false, false, false, false] rfl rfl (by kernel_rfl) (fun _ _ _ h => h) (Or.inl ⟨by rfl, ?_⟩) ?_ ?_
      rotate_left
      · intro w'; go_simp; with_reducible rfl
      rotate_left
      · simp only [Act.put, OpenRow.s1, OpenRow.s2, OpenRow.s3, i64_w, i32_w]; rfl
      refine pure_ (i := 2) (N := some 12) (v := ?_) (a' := ?_) #[true, true, true, false, false, false, false, false, false, false] rfl rfl (by kernel_rfl) (fun _ _ _ h => h) (Or.inl ⟨by rfl, ?_⟩) ?_ ?_
      rotate_left
      · intro w'; go_simp; with_reducible rfl
      rotate_left
      · simp only [Act.put, OpenRow.s1, OpenRow.s2, OpenRow.s3, i64_w, i32_w]; rfl
      refine pure_ (i := 4) (N := some 14) (v := ?_) (a' := ?_) #[true, true, true, false, true, false, false, false, false, false] rfl rfl (by kernel_rfl) (fun _ _ _ h => h) (Or.inl ⟨by rfl, ?_⟩) ?_ ?_
      rotate_left
      · intro w'; go_simp; with_reducible rfl
      rotate_left
      · simp only [Act.put, OpenRow.s1, OpenRow.s2, OpenRow.s3, i64_w, i32_w]; rfl
      refine pure_ (i := 5) (N := some 15) (v := ?_) (a' := ?_) #[true, true, true, false, true, true, false, false, false, false] rfl rfl (by kernel_rfl) (fun _ _ _ h => h) (Or.inl ⟨by rfl, ?_⟩) ?_ ?_
      rotate_left
      · intro w'; go_simp; with_reducible rfl
      rotate_left
      · simp only [Act.put, OpenRow.s1, OpenRow.s2, OpenRow.s3, i64_w, i32_w]; rfl
      refine pure_ (i := 6) (N := some 16) (v := ?_) (a' := ?_) #[true, true, true, false, true, true, true, false, false, false] rfl rfl (by kernel_rfl) (fun _ _ _ h => h) (Or.inl ⟨by rfl, ?_⟩) ?_ ?_
      rotate_left
      · intro w'; go_simp; with_reducible rfl
      rotate_left
      · simp only [Act.put, OpenRow.s1, OpenRow.s2, OpenRow.s3, i64_w, i32_w]; rfl
      refine take_ (i := 3) (N := some 13) (v := ?_) (a' := ?_) #[true, true, true, true, true, true, true, false, false, false] rfl rfl (by kernel_rfl) (fun _ _ _ h => h) (Or.inl ⟨by rfl, ?_⟩) hHeld ?_ ?_
      rotate_left
      · rintro w' ⟨s0, s1⟩
        go_simp
        with_reducible rfl
      rotate_left
      · simp only [Act.put, OpenRow.s1, OpenRow.s2, OpenRow.s3, i64_w, i32_w]; rfl
      refine take_ (i := 7) (N := some 17) (v := ?_) (a' := ?_) #[true, true, true, true, true, true, true, true, false, false] rfl rfl (by kernel_rfl) (fun _ _ _ h => h) (Or.inl ⟨by rfl, ?_⟩) hHeld ?_ ?_
      rotate_left
      · rintro w' ⟨s0, s1⟩
        go_simp
        with_reducible rfl
      rotate_left
      · simp only [Act.put, OpenRow.s1, OpenRow.s2, OpenRow.s3, i64_w, i32_w]; rfl
      refine pure_ (i := 8) (N := some 18) (v := ?_) (a' := ?_) #[true, true, true, true, true, true, true, true, true, false] rfl rfl (by kernel_rfl) (fun _ _ _ h => h) (Or.inl ⟨by rfl, ?_⟩) ?_ ?_
      rotate_left
      · intro w'; go_simp; with_reducible rfl
      rotate_left
      · simp only [Act.put, OpenRow.s1, OpenRow.s2, OpenRow.s3, i64_w, i32_w]; rfl
      refine pure_ (i := 9) (N := some 19) (v := ?_) (a' := ?_) #[true, true, true, true, true, true, true, true, true, true] rfl rfl (by kernel_rfl) (fun _ _ _ h => h) (Or.inl ⟨by rfl, ?_⟩) ?_ ?_
      rotate_left
      · intro w'; go_simp; with_reducible rfl
      rotate_left
      · simp only [Act.put, OpenRow.s1, OpenRow.s2, OpenRow.s3, i64_w, i32_w]; rfl
      refine done_ (by kernel_rfl) ?_
      have G2 := Aside0.mk (blk_drew G1.out)
      have C2 := Aside0.mk C1.out.drew
      have n0 : w1.drew.cell? ⟨g, 0, none⟩ = some (.slice A code.length c) := k0
      have n1 : w1.drew.cell? ⟨g, 1, none⟩ = some (.int .i64 a1) := k1
      have n2 : w1.drew.cell? ⟨g, 2, none⟩ = some (.int .i64 seed) := k2
      have g2 : w1.drew.frozen? ⟨g, 2, none⟩ = false := f2
      clear k0 k1 k2 f2 C1 G1
      generalize w1.drew = w2 at *
      have k1 := n1
      have k2 := n2
      have f2 := g2
      clear n0 n1 n2 g2
      have G3 := Aside0.mk (blk_put G2.out 2 (.int .i64 s4) (cs' := #[.slice A code.length c, .int .i64 a1, .int .i64 s4]) rfl)
      have C3 := Aside0.mk (C2.out.set 2 (.int .i64 s4))
      go_wp2
      go_ret
      exact ⟨by rw [EV.out]; rfl, by rw [ES.out]; exact G3.out, C3.out⟩
set_option maxHeartbeats 1000000 in
set_option maxRecDepth 100000 in
theorem l00next.calls (g : Nat) (A : Option Addr) (c : Nat) (code : List Int) (k : Nat) (n : Int) (w0 w : World) (hg : w.heap[g]? = some (.cells #[.slice A code.length c, .int .i64 (k : Int), .int .i64 (sdN code k)] 58 (0, 0)))
    (hC : Kd.C (Kd.int .u8) w0 A code.length code) (hB : Below w0.heap.size w0 w) (hgb : w0.heap.size ≤ g) (ho : Ok 256 code) (hk : k < 1000000) (hl : code.length < 1099511627776) (hn : 2 ≤ n) (hn2 : n ≤ 256) :
    Calls Try.prog 31 #[.pointer (some ⟨g, 0, none⟩), .int .i64 n] w fun e w' => e = .returned (.int .i64 (byN code k % n)) ∧ w'.heap[g]? = some (.cells #[.slice A code.length c, .int .i64 ((k + 1 : Nat) : Int), .int .i64 (sdN code (k + 1))] 58 (0, 0)) ∧ Ch g w w' := by
  have HY := Aside0.mk (l00byte.calls g A c code k (sdN code k) w0 w hg hC hB hgb ho hk (sdN_range code k) hl)
  have hr := byN_range code ho k
  have hr1 := hr.1
  have hr2 := hr.2
  clear hr
  have HV := Aside0.mk (show byV code k (sdN code k) = byN code k from rfl)
  have HS := Aside0.mk (show byS code k (sdN code k) = sdN code (k + 1) from rfl)
  rw [HV.out, HS.out] at HY
  generalize byN code k = b at *
  obtain ⟨r, hr⟩ : ∃ r, r = b % n := ⟨_, rfl⟩
  have q1 : b % n = r := hr.symm
  have q2 : b.tmod n = r := by rw [Int.tmod_eq_emod_of_nonneg (by omega)]; exact q1
  have n0 : ¬ n = 0 := by omega
  have n1 : ¬ n ≤ 1 := by omega
  have r0 : 0 ≤ r := by rw [hr]; exact Int.emod_nonneg _ n0
  have r1 : r < n := by rw [hr]; exact Int.emod_lt_of_pos _ (by omega)
  have wr_ : IntKind.i64.wrap r = r := by rw [IntKind.wrap_i64]; omega
  rw [q1]
  clear HV HS hg hC hB hr
  go_enter Try.func31, Try.ntmps31
  go_wp2_with ((with_reducible refine (HY.out).mono ?_); rintro e w1 ⟨rfl, hS, hc⟩; have G1 := Aside0.mk hS; have C1 := Aside0.mk hc; clear hS hc)
  go_ret
  exact ⟨rfl, G1.out, C1.out⟩
set_option maxHeartbeats 4000000 in
set_option maxRecDepth 100000 in
theorem spec_l05None.calls (w : World) :
    Calls Try.prog 32 #[] w fun e w' => e = .returned (.agg (arr .i64 (feP 0 1 1 0))) ∧ Below w.heap.size w w' := by
  have HS := Aside0.mk (fun W => (show Calls Try.prog 52 #[.int .i64 1] W fun e w' => e = .returned (.agg #[.int .i64 1, .int .i64 0, .int .i64 0, .int .i64 0, .int .i64 0, .int .i64 0, .int .i64 0, .int .i64 0, .int .i64 0, .int .i64 0, .int .i64 0, .int .i64 0, .int .i64 0, .int .i64 0, .int .i64 0, .int .i64 0]) ∧ Below W.heap.size W w' from by
    have h := spec_l05Small.calls 1 W (by decide)
    rw [show fe 1 = [1, 0, 0, 0, 0, 0, 0, 0, 0, 0, 0, 0, 0, 0, 0, 0] from by decide] at h
    exact h))
  have PL := Aside0.mk (feP_length 0 1 1 0)
  have S := Aside0.mk ((St.start w).push rfl 43 .i64 zP)
  go_enter Try.func32, Try.ntmps32
  go_wp2_with (first
    | ((with_reducible refine (HS.out _).mono ?_); rintro e w1 ⟨rfl, hb⟩; have S := Aside0.mk (S.out.step hb); clear hb)
    | (refine st_arr rfl 43 (.tmp 0) (.tmp 3) rfl w.heap.size (k := .i64) (xs := feP 0 1 1 0) rfl (by kernel_rfl) (S.out.blk 0 rfl) (m := 64) (by kernel_rfl) PL.out (by rw [PL.out]; rfl) ?_; intro w' h1 h2 h4 h3; have H1 := Aside0.mk h1; have S2 := Aside0.mk (S.out.row 0 rfl h1 h2 h3); clear h1 h2 h3 h4))
  exact bodyPost_ret (results_cell_row Try.results32 _ _ w.heap.size 43 _ (0, 0) _ rfl H1.out Try.underlying43 rfl (by rw [arr_size, PL.out]; kernel_rfl)) rfl ⟨rfl, S2.out.below⟩
def spec_l05Base.f : Option (List Int) := some (limbs 256 32 (4 * (5 ^ (PP - 2) % PP) % PP))
set_option maxHeartbeats 1000000 in
set_option maxRecDepth 100000 in
theorem spec_l05Base.calls (r : List Int) (w : World) (h : spec_l05Base.f = some r) :
    Calls Try.prog 33 #[] w fun e w' => ∃ v0_ : Value, e = .returned (v0_) ∧ Kd.R (Kd.int .u8) 5 w' w.heap.size (fun _ => True) v0_ r ∧ Below w.heap.size w w' := by
  obtain rfl := Option.some.inj h
  clear h
  have HS4 := Aside0.mk (fun W => (show Calls Try.prog 52 #[.int .i64 4] W _ from spec_l05Small.calls 4 W (by decide)))
  have HS5 := Aside0.mk (fun W => (show Calls Try.prog 52 #[.int .i64 5] W _ from spec_l05Small.calls 5 W (by decide)))
  have HI := Aside0.mk (fun W => spec_l05Inverse.calls 5 W (by decide))
  have HM := Aside0.mk (fun c W (hc : c < BB) => spec_l05Mul.calls 4 c W (by decide) hc)
  have HF := Aside0.mk (fun c d (h1 : c % PP = 5 ^ (PP - 2) % PP) (h2 : d % PP = 4 * c % PP) => show d % PP = 4 * (5 ^ (PP - 2) % PP) % PP by rw [h2, Nat.mul_mod, h1, ← Nat.mul_mod, Nat.mul_mod 4 (5 ^ (PP - 2) % PP), Nat.mod_mod, ← Nat.mul_mod])
  generalize 4 * (5 ^ (PP - 2) % PP) % PP = r at *
  generalize 5 ^ (PP - 2) % PP = q at *
  have B0 := Aside0.mk (Below.refl w.heap.size w)
  go_enter Try.func33, Try.ntmps33
  go_wp2_with (first
    | ((with_reducible refine (HS4.out _).mono ?_); rintro e w1 ⟨rfl, hb⟩; have B1 := Aside0.mk (below_step B0.out hb); clear hb)
    | ((with_reducible refine (HS5.out _).mono ?_); rintro e w2 ⟨rfl, hb⟩; have B2 := Aside0.mk (below_step B1.out hb); clear hb)
    | ((with_reducible refine (HI.out _).mono ?_); rintro e w3 ⟨c, hc, hm, rfl, hb⟩; have B3 := Aside0.mk (below_step B2.out hb); clear hb)
    | ((with_reducible refine (HM.out c _ hc).mono ?_); rintro e w4 ⟨d, hd, hm2, rfl, hb⟩; have B4 := Aside0.mk (below_step B3.out hb); clear hb)
    | ((with_reducible refine (bytes_fe d _ hd).mono ?_); rintro e w5 ⟨v, rfl, hR, hb⟩; rw [HF.out c d hm hm2] at hR; have HR := Aside0.mk (Kd.R_lower hR (below_size B4.out)); have B5 := Aside0.mk (below_step B4.out hb); clear hb hR))
  go_ret
  exact ⟨_, rfl, HR.out, B5.out⟩
theorem feP_x (x y z t : Nat) : ((feP x y z t).drop 0).take (fe x).length = fe x := by
  rw [List.drop_zero, feP, List.take_left']; rfl
theorem feP_y (x y z t : Nat) : ((feP x y z t).drop 16).take (fe y).length = fe y := by
  rw [feP, List.drop_left' (fe_length x), List.take_left']; rfl
theorem feP_z (x y z t : Nat) : ((feP x y z t).drop 32).take (fe z).length = fe z := by
  rw [feP, ← List.append_assoc, List.drop_left' (by simp [fe_length]), List.take_left']; rfl
theorem feP_t (x y z t : Nat) : ((feP x y z t).drop 48).take (fe t).length = fe t := by
  rw [feP, ← List.append_assoc, ← List.append_assoc, List.drop_left' (by simp [fe_length]), List.take_of_length_le (Nat.le_refl _)]
def Rs (f : FuncId) (x y v : Nat) (W : World) : Prop := Calls Try.prog f #[.agg (arr .i64 (fe x)), .agg (arr .i64 (fe y))] W fun e w' => ∃ c, c < BB ∧ c % FldB.PP = v ∧ e = .returned (.agg (arr .i64 (fe c))) ∧ Below W.heap.size W w'
theorem Rs.c {f : FuncId} {x y v : Nat} {W : World} (h : Rs f x y v W) : Calls Try.prog f #[.agg (arr .i64 (fe x)), .agg (arr .i64 (fe y))] W fun e w' => ∃ c, c < BB ∧ c % FldB.PP = v ∧ e = .returned (.agg (arr .i64 (fe c))) ∧ Below W.heap.size W w' := h
theorem rs_mul (x y : Nat) (hx : x < BB) (hy : y < BB) (u v : Nat) (hu : x % FldB.PP = u) (hv : y % FldB.PP = v) (W : World) : Rs 51 x y (fm u v) W :=
  (spec_l05Mul.calls x y W hx hy).mono fun e w' ⟨c, h1, h2, h3, h4⟩ => ⟨c, h1, by rw [mul_res x y c h2, hu, hv], h3, h4⟩
theorem rs_add (x y : Nat) (hx : x < BB) (hy : y < BB) (u v : Nat) (hu : x % FldB.PP = u) (hv : y % FldB.PP = v) (W : World) : Rs 21 x y (fa u v) W :=
  (spec_l05Add.calls x y W hx hy).mono fun e w' ⟨c, h1, h2, h3, h4⟩ => ⟨c, h1, by rw [add_res x y c h2, hu, hv], h3, h4⟩
theorem rs_sub (x y : Nat) (hx : x < BB) (hy : y < BB) (u v : Nat) (hu : x % FldB.PP = u) (hv : y % FldB.PP = v) (W : World) : Rs 53 x y (fs u v) W :=
  (spec_l05Sub.calls x y W hx hy).mono fun e w' ⟨c, h1, h2, h3, h4⟩ => ⟨c, h1, by rw [sub_res x y c h2, hu, hv], h3, h4⟩
set_option maxHeartbeats 4000000 in
set_option maxRecDepth 100000 in
theorem spec_l05Plus.calls (P Q : Q4) (d2 : Nat) (w : World) (hP : LtB P) (hQ : LtB Q) (hd : d2 < BB) :
    Calls Try.prog 20 #[.agg (arr .i64 (feP P.x P.y P.z P.t)), .agg (arr .i64 (feP Q.x Q.y Q.z Q.t)), .agg (arr .i64 (fe d2))] w fun e w' => ∃ R : Q4, LtB R ∧ md R = FldOpsS.addS (md P) (md Q) (d2 % FldB.PP) ∧ e = .returned (.agg (arr .i64 (feP R.x R.y R.z R.t))) ∧ Below w.heap.size w w' := by
  obtain ⟨hx1, hy1, hz1, ht1⟩ := hP
  obtain ⟨hx2, hy2, hz2, ht2⟩ := hQ
  obtain ⟨v1, e1⟩ : ∃ v, v = fs (md P).y (md P).x := ⟨_, rfl⟩
  obtain ⟨v2, e2⟩ : ∃ v, v = fs (md Q).y (md Q).x := ⟨_, rfl⟩
  obtain ⟨v3, e3⟩ : ∃ v, v = fa (md P).y (md P).x := ⟨_, rfl⟩
  obtain ⟨v4, e4⟩ : ∃ v, v = fa (md Q).y (md Q).x := ⟨_, rfl⟩
  obtain ⟨va, ea⟩ : ∃ v, v = fm v1 v2 := ⟨_, rfl⟩
  obtain ⟨vb, eb⟩ : ∃ v, v = fm v3 v4 := ⟨_, rfl⟩
  obtain ⟨v5, e5⟩ : ∃ v, v = fm (md P).t (d2 % FldB.PP) := ⟨_, rfl⟩
  obtain ⟨vc, ec⟩ : ∃ v, v = fm v5 (md Q).t := ⟨_, rfl⟩
  obtain ⟨v6, e6⟩ : ∃ v, v = fa (md P).z (md P).z := ⟨_, rfl⟩
  obtain ⟨vd, ed⟩ : ∃ v, v = fm v6 (md Q).z := ⟨_, rfl⟩
  obtain ⟨ve, ee⟩ : ∃ v, v = fs vb va := ⟨_, rfl⟩
  obtain ⟨vf, ef⟩ : ∃ v, v = fs vd vc := ⟨_, rfl⟩
  obtain ⟨vg, eg⟩ : ∃ v, v = fa vd vc := ⟨_, rfl⟩
  obtain ⟨vh, eh⟩ : ∃ v, v = fa vb va := ⟨_, rfl⟩
  have EQ := Aside0.mk (show FldOpsS.addS (md P) (md Q) (d2 % FldB.PP) = ⟨fm ve vf, fm vg vh, fm vf vg, fm ve vh⟩ by rw [ee, ef, eg, eh, ea, eb, ec, ed, e1, e2, e3, e4, e5, e6]; rfl)
  have SU1 := Aside0.mk (fun W => (show Rs 53 P.y P.x v1 W by rw [e1]; exact rs_sub _ _ hy1 hx1 _ _ rfl rfl W))
  have SU2 := Aside0.mk (fun W => (show Rs 53 Q.y Q.x v2 W by rw [e2]; exact rs_sub _ _ hy2 hx2 _ _ rfl rfl W))
  have AD1 := Aside0.mk (fun W => (show Rs 21 P.y P.x v3 W by rw [e3]; exact rs_add _ _ hy1 hx1 _ _ rfl rfl W))
  have AD2 := Aside0.mk (fun W => (show Rs 21 Q.y Q.x v4 W by rw [e4]; exact rs_add _ _ hy2 hx2 _ _ rfl rfl W))
  have MA := Aside0.mk (fun x y W (hx : x < BB) (hy : y < BB) (mx : x % FldB.PP = v1) (my : y % FldB.PP = v2) => (show Rs 51 x y va W by rw [ea]; exact rs_mul _ _ hx hy _ _ mx my W))
  have MB := Aside0.mk (fun x y W (hx : x < BB) (hy : y < BB) (mx : x % FldB.PP = v3) (my : y % FldB.PP = v4) => (show Rs 51 x y vb W by rw [eb]; exact rs_mul _ _ hx hy _ _ mx my W))
  have MT := Aside0.mk (fun W => (show Rs 51 P.t d2 v5 W by rw [e5]; exact rs_mul _ _ ht1 hd _ _ rfl rfl W))
  have MC := Aside0.mk (fun x W (hx : x < BB) (mx : x % FldB.PP = v5) => (show Rs 51 x Q.t vc W by rw [ec]; exact rs_mul _ _ hx ht2 _ _ mx rfl W))
  have AZ := Aside0.mk (fun W => (show Rs 21 P.z P.z v6 W by rw [e6]; exact rs_add _ _ hz1 hz1 _ _ rfl rfl W))
  have MD := Aside0.mk (fun x W (hx : x < BB) (mx : x % FldB.PP = v6) => (show Rs 51 x Q.z vd W by rw [ed]; exact rs_mul _ _ hx hz2 _ _ mx rfl W))
  have SE := Aside0.mk (fun x y W (hx : x < BB) (hy : y < BB) (mx : x % FldB.PP = vb) (my : y % FldB.PP = va) => (show Rs 53 x y ve W by rw [ee]; exact rs_sub _ _ hx hy _ _ mx my W))
  have SF := Aside0.mk (fun x y W (hx : x < BB) (hy : y < BB) (mx : x % FldB.PP = vd) (my : y % FldB.PP = vc) => (show Rs 53 x y vf W by rw [ef]; exact rs_sub _ _ hx hy _ _ mx my W))
  have AG := Aside0.mk (fun x y W (hx : x < BB) (hy : y < BB) (mx : x % FldB.PP = vd) (my : y % FldB.PP = vc) => (show Rs 21 x y vg W by rw [eg]; exact rs_add _ _ hx hy _ _ mx my W))
  have AH := Aside0.mk (fun x y W (hx : x < BB) (hy : y < BB) (mx : x % FldB.PP = vb) (my : y % FldB.PP = va) => (show Rs 21 x y vh W by rw [eh]; exact rs_add _ _ hx hy _ _ mx my W))
  have MM := Aside0.mk (fun x y u v W (hx : x < BB) (hy : y < BB) (mx : x % FldB.PP = u) (my : y % FldB.PP = v) => rs_mul x y hx hy u v mx my W)
  rw [EQ.out]
  clear EQ e1 e2 e3 e4 e5 e6 ea eb ec ed ee ef eg eh hx1 hy1 hz1 ht1 hx2 hy2 hz2 ht2 hd
  have S := Aside0.mk (((((St.start w).push rfl 43 .i64 (feP P.x P.y P.z P.t)).push (World.size_alloc ..) 43 .i64 (feP Q.x Q.y Q.z Q.t)).push (by rw [World.size_alloc, World.size_alloc]; rfl) 41 .i64 (fe d2)).push (by rw [World.size_alloc, World.size_alloc, World.size_alloc]; rfl) 43 .i64 zP)
  go_enter Try.func20, Try.ntmps20
  go_wp2
  refine abs_world (bs := [⟨43, .i64, feP P.x P.y P.z P.t⟩, ⟨43, .i64, feP Q.x Q.y Q.z Q.t⟩, ⟨41, .i64, fe d2⟩, ⟨43, .i64, zP⟩]) S.out ?_
  clear S
  intro W0 hS
  have U := Aside0.mk hS.drew
  clear hS
  refine start_ (n := 13) (S := fun w' => St w [⟨43, .i64, feP P.x P.y P.z P.t⟩, ⟨43, .i64, feP Q.x Q.y Q.z Q.t⟩, ⟨41, .i64, fe d2⟩, ⟨43, .i64, zP⟩] w') (ds := [12]) #[false, false, false, false, false, false, false, false, false, false, false, false, false] (by kernel_rfl) rfl rfl (U.out) (fun hHeld => ?_)
  refine pure_ (i := 0) (N := some 15) (v := ?_) (a' := ?_) #[true, false, false, false, false, false, false, false, false, false, false, false, false] rfl rfl (by kernel_rfl) (fun _ _ _ h => h) (Or.inl ⟨by rfl, ?_⟩) ?_ ?_
  rotate_left
  · intro w'; go_simp; with_reducible rfl
  rotate_left
  · simp only [Act.put, OpenRow.s1, OpenRow.s2, OpenRow.s3, i64_w, i32_w]; rfl
  refine pure_ (i := 2) (N := some 17) (v := ?_) (a' := ?_) #[true, false, true, false, false, false, false, false, false, false, false, false, false] rfl rfl (by kernel_rfl) (fun _ _ _ h => h) (Or.inl ⟨by rfl, ?_⟩) ?_ ?_
  rotate_left
  · intro w'; go_simp; with_reducible rfl
  rotate_left
  · simp only [Act.put, OpenRow.s1, OpenRow.s2, OpenRow.s3, i64_w, i32_w]; rfl
  refine pure_ (i := 5) (N := some 20) (v := ?_) (a' := ?_) #[true, false, true, false, false, true, false, false, false, false, false, false, false] rfl rfl (by kernel_rfl) (fun _ _ _ h => h) (Or.inl ⟨by rfl, ?_⟩) ?_ ?_
  rotate_left
  · intro w'; go_simp; with_reducible rfl
  rotate_left
  · simp only [Act.put, OpenRow.s1, OpenRow.s2, OpenRow.s3, i64_w, i32_w]; rfl
  refine pure_ (i := 7) (N := some 22) (v := ?_) (a' := ?_) #[true, false, true, false, false, true, false, true, false, false, false, false, false] rfl rfl (by kernel_rfl) (fun _ _ _ h => h) (Or.inl ⟨by rfl, ?_⟩) ?_ ?_
  rotate_left
  · intro w'; go_simp; with_reducible rfl
  rotate_left
  · simp only [Act.put, OpenRow.s1, OpenRow.s2, OpenRow.s3, i64_w, i32_w]; rfl
  refine take_ (i := 1) (N := some 16) (v := ?_) (a' := ?_) #[true, true, true, false, false, true, false, true, false, false, false, false, false] rfl rfl (by kernel_rfl) (fun _ _ _ h => h) (Or.inl ⟨by rfl, ?_⟩) hHeld ?_ ?_
  rotate_left
  · intro w' s0
    refine (run_ldm 41 (.tmp 15) (by rfl) w.heap.size 16 (by rfl) (fe P.y) (s0.blk 0 rfl) (feP_y _ _ _ _) Try.underlying41 (m := 16) (by kernel_rfl) (fe_length _)).trans ?_; with_reducible rfl
  rotate_left
  · simp only [Act.put, OpenRow.s1, OpenRow.s2, OpenRow.s3, i64_w, i32_w]; rfl
  refine take_ (i := 3) (N := some 18) (v := ?_) (a' := ?_) #[true, true, true, true, false, true, false, true, false, false, false, false, false] rfl rfl (by kernel_rfl) (fun _ _ _ h => h) (Or.inl ⟨by rfl, ?_⟩) hHeld ?_ ?_
  rotate_left
  · intro w' s0
    refine (run_ldm 41 (.tmp 17) (by rfl) w.heap.size 0 (by rfl) (fe P.x) (s0.blk 0 rfl) (feP_x _ _ _ _) Try.underlying41 (m := 16) (by kernel_rfl) (fe_length _)).trans ?_; with_reducible rfl
  rotate_left
  · simp only [Act.put, OpenRow.s1, OpenRow.s2, OpenRow.s3, i64_w, i32_w]; rfl
  refine take_ (i := 6) (N := some 21) (v := ?_) (a' := ?_) #[true, true, true, true, false, true, true, true, false, false, false, false, false] rfl rfl (by kernel_rfl) (fun _ _ _ h => h) (Or.inl ⟨by rfl, ?_⟩) hHeld ?_ ?_
  rotate_left
  · intro w' s0
    refine (run_ldm 41 (.tmp 20) (by rfl) (w.heap.size + 1) 16 (by rfl) (fe Q.y) (s0.blk 1 rfl) (feP_y _ _ _ _) Try.underlying41 (m := 16) (by kernel_rfl) (fe_length _)).trans ?_; with_reducible rfl
  rotate_left
  · simp only [Act.put, OpenRow.s1, OpenRow.s2, OpenRow.s3, i64_w, i32_w]; rfl
  refine take_ (i := 8) (N := some 23) (v := ?_) (a' := ?_) #[true, true, true, true, false, true, true, true, true, false, false, false, false] rfl rfl (by kernel_rfl) (fun _ _ _ h => h) (Or.inl ⟨by rfl, ?_⟩) hHeld ?_ ?_
  rotate_left
  · intro w' s0
    refine (run_ldm 41 (.tmp 22) (by rfl) (w.heap.size + 1) 0 (by rfl) (fe Q.x) (s0.blk 1 rfl) (feP_x _ _ _ _) Try.underlying41 (m := 16) (by kernel_rfl) (fe_length _)).trans ?_; with_reducible rfl
  rotate_left
  · simp only [Act.put, OpenRow.s1, OpenRow.s2, OpenRow.s3, i64_w, i32_w]; rfl
  refine ch1 [4, 9, 10] 3 rfl (i1 := 11) (n1 := 7) (o1 := _) (Z1 := .cells (arr .i64 z16) 41) (lf := #[true, true, true, true, true, true, true, true, true, true, true, true, false]) (f := 1) (VS := (fun k l => match k with | 0 =>  l = [] | 1 => ∃ k1, (k1 < BB) ∧ (k1 % FldB.PP = v1) ∧ l = [(19, .agg (arr .i64 (fe k1)))] | 2 => ∃ k1, ∃ k2, (k1 < BB) ∧ (k1 % FldB.PP = v1) ∧ (k2 < BB) ∧ (k2 % FldB.PP = v2) ∧ l = [(19, .agg (arr .i64 (fe k1))), (24, .agg (arr .i64 (fe k2)))] | _ => ∃ k1, ∃ k2, ∃ ca, (k1 < BB) ∧ (k1 % FldB.PP = v1) ∧ (k2 < BB) ∧ (k2 % FldB.PP = v2) ∧ (ca < BB) ∧ (ca % FldB.PP = va) ∧ l = [(19, .agg (arr .i64 (fe k1))), (24, .agg (arr .i64 (fe k2))), (25, .agg (arr .i64 (fe ca)))])) (by kernel_rfl) rfl rfl rfl rfl ?hz1_1 (fun W1 W2 hs hb => ?hT_1) ?hV_1 ?ha_1 hHeld ?hB_1 ?hfin_1
  case hz1_1 => intro ρ W; go_simp; first | done | exact ⟨rfl, rfl⟩ | rfl
  case hT_1 => exact (fun h => St.step h hb) hs
  case hV_1 => exact rfl
  case ha_1 => (simp only [Act.put, OpenRow.s1, OpenRow.s2, OpenRow.s3] <;> rfl)
  case hB_1 =>
    refine ⟨?_, ?_, ?_, trivial⟩
    · refine ⟨_, _, rfl, rfl, by decide, fun l hl x Az hAz W1 hs K hK => ?_⟩
      subst hl
      simp only [putAll, List.take_succ_cons, List.take_zero, List.take_nil, Act.put, OpenRow.s1, OpenRow.s2, OpenRow.s3] at hAz
      subst hAz
      refine goes_ Try.func53 (by kernel_rfl) rfl #[.agg (arr .i64 (fe P.y)), .agg (arr .i64 (fe P.x))] (by rfl) rfl rfl (by simp only [List.map_toArray, List.map_cons, List.map_nil] <;> rfl) ?_
      with_reducible refine ((SU1.out _).c).mono ?_
      rintro e W2 ⟨k1, hk1, mk1, rfl, hb⟩
      exact ⟨_, rfl, hK _ _ ⟨k1, hk1, mk1, rfl⟩ hb⟩
    · refine ⟨_, _, rfl, rfl, by decide, fun l hl x Az hAz W1 hs K hK => ?_⟩
      obtain ⟨k1, hk1, mk1, rfl⟩ := hl
      simp only [putAll, List.take_succ_cons, List.take_zero, List.take_nil, Act.put, OpenRow.s1, OpenRow.s2, OpenRow.s3] at hAz
      subst hAz
      refine goes_ Try.func53 (by kernel_rfl) rfl #[.agg (arr .i64 (fe Q.y)), .agg (arr .i64 (fe Q.x))] (by rfl) rfl rfl (by simp only [List.map_toArray, List.map_cons, List.map_nil] <;> rfl) ?_
      with_reducible refine ((SU2.out _).c).mono ?_
      rintro e W2 ⟨k2, hk2, mk2, rfl, hb⟩
      exact ⟨_, rfl, hK _ _ ⟨k1, k2, hk1, mk1, hk2, mk2, rfl⟩ hb⟩
    · refine ⟨_, _, rfl, rfl, by decide, fun l hl x Az hAz W1 hs K hK => ?_⟩
      obtain ⟨k1, k2, hk1, mk1, hk2, mk2, rfl⟩ := hl
      simp only [putAll, List.take_succ_cons, List.take_zero, List.take_nil, Act.put, OpenRow.s1, OpenRow.s2, OpenRow.s3] at hAz
      subst hAz
      refine goes_ Try.func51 (by kernel_rfl) rfl #[.agg (arr .i64 (fe k1)), .agg (arr .i64 (fe k2))] (by rfl) rfl rfl (by simp only [List.map_toArray, List.map_cons, List.map_nil] <;> rfl) ?_
      with_reducible refine ((MA.out _ _ _ hk1 hk2 mk1 mk2).c).mono ?_
      rintro e W2 ⟨ca, hca, mca, rfl, hb⟩
      exact ⟨_, rfl, hK _ _ ⟨k1, k2, ca, hk1, mk1, hk2, mk2, hca, mca, rfl⟩ hb⟩
  case hfin_1 =>
    intro l g11_ Az w9 hl hAz hs9 hG11 hE11
    obtain ⟨k1, k2, ca, hk1, mk1, hk2, mk2, hca, mca, rfl⟩ := hl
    have hS0 := hs9
    have T9 := Aside0.mk hS0
    have GG11 := Aside0.mk hG11
    have EE11 := Aside0.mk (Nat.le_trans U.out.size hE11)
    have hHeld := hs9
    clear hG11 hE11
    simp only [ptr, putAll, List.take_succ_cons, List.take_zero, List.take_nil, Act.put, OpenRow.s1, OpenRow.s2, OpenRow.s3] at hAz
    subst hAz
    refine last_ (i := 12) (N := none) #[true, true, true, true, true, true, true, true, true, true, true, true, true] rfl rfl (by kernel_rfl) (by decide) (fun K hK => ?_)
    refine st_step (by rfl) rfl 41 (.tmp 7) (.tmp 25) rfl g11_ rfl rfl GG11.out (m := 16) (by kernel_rfl) (fe_length _) (by rw [fe_length]; rfl) ?_
    intro w6 h1 h2 h3 h4
    have NB := Aside0.mk h1
    have V := Aside0.mk (St.other T9.out h2 h3 EE11.out)
    clear h1 h2 h3 h4
    refine hK.out _ _ ?_
    clear hK K
    refine done_ (by kernel_rfl) ?_
  
    (repeat go_step)
    obtain ⟨n1, hn⟩ : ∃ g, g = g11_ := ⟨_, rfl⟩
    rw [← hn] at NB ⊢
    clear hn
    have Hca := Aside0.mk hca
    have Mca := Aside0.mk mca
    clear hk1 mk1 hk2 mk2 hca mca U T9 GG11 EE11 
    have U := Aside0.mk (V.out.drew)
    have LA := Aside0.mk (blk_drew NB.out)
    clear V NB 
    refine start_ (n := 13) (S := fun w' => St w [⟨43, .i64, feP P.x P.y P.z P.t⟩, ⟨43, .i64, feP Q.x Q.y Q.z Q.t⟩, ⟨41, .i64, fe d2⟩, ⟨43, .i64, zP⟩] w' ∧ w'.heap[n1]? = some (.cells (arr .i64 (fe ca)) 41 (0, 0))) (ds := [12]) #[false, false, false, false, false, false, false, false, false, false, false, false, false] (by kernel_rfl) rfl rfl ⟨U.out, LA.out⟩ (fun hHeld => ?_)
    refine pure_ (i := 0) (N := some 26) (v := ?_) (a' := ?_) #[true, false, false, false, false, false, false, false, false, false, false, false, false] rfl rfl (by kernel_rfl) (fun _ _ _ h => h) (Or.inl ⟨by rfl, ?_⟩) ?_ ?_
    rotate_left
    · intro w'; go_simp; with_reducible rfl
    rotate_left
    · simp only [Act.put, OpenRow.s1, OpenRow.s2, OpenRow.s3, i64_w, i32_w]; rfl
    refine pure_ (i := 2) (N := some 28) (v := ?_) (a' := ?_) #[true, false, true, false, false, false, false, false, false, false, false, false, false] rfl rfl (by kernel_rfl) (fun _ _ _ h => h) (Or.inl ⟨by rfl, ?_⟩) ?_ ?_
    rotate_left
    · intro w'; go_simp; with_reducible rfl
    rotate_left
    · simp only [Act.put, OpenRow.s1, OpenRow.s2, OpenRow.s3, i64_w, i32_w]; rfl
    refine pure_ (i := 5) (N := some 31) (v := ?_) (a' := ?_) #[true, false, true, false, false, true, false, false, false, false, false, false, false] rfl rfl (by kernel_rfl) (fun _ _ _ h => h) (Or.inl ⟨by rfl, ?_⟩) ?_ ?_
    rotate_left
    · intro w'; go_simp; with_reducible rfl
    rotate_left
    · simp only [Act.put, OpenRow.s1, OpenRow.s2, OpenRow.s3, i64_w, i32_w]; rfl
    refine pure_ (i := 7) (N := some 33) (v := ?_) (a' := ?_) #[true, false, true, false, false, true, false, true, false, false, false, false, false] rfl rfl (by kernel_rfl) (fun _ _ _ h => h) (Or.inl ⟨by rfl, ?_⟩) ?_ ?_
    rotate_left
    · intro w'; go_simp; with_reducible rfl
    rotate_left
    · simp only [Act.put, OpenRow.s1, OpenRow.s2, OpenRow.s3, i64_w, i32_w]; rfl
    refine take_ (i := 1) (N := some 27) (v := ?_) (a' := ?_) #[true, true, true, false, false, true, false, true, false, false, false, false, false] rfl rfl (by kernel_rfl) (fun _ _ _ h => h) (Or.inl ⟨by rfl, ?_⟩) hHeld ?_ ?_
    rotate_left
    · rintro w' ⟨s0, s1⟩
      refine (run_ldm 41 (.tmp 26) (by rfl) w.heap.size 16 (by rfl) (fe P.y) (s0.blk 0 rfl) (feP_y _ _ _ _) Try.underlying41 (m := 16) (by kernel_rfl) (fe_length _)).trans ?_; with_reducible rfl
    rotate_left
    · simp only [Act.put, OpenRow.s1, OpenRow.s2, OpenRow.s3, i64_w, i32_w]; rfl
    refine take_ (i := 3) (N := some 29) (v := ?_) (a' := ?_) #[true, true, true, true, false, true, false, true, false, false, false, false, false] rfl rfl (by kernel_rfl) (fun _ _ _ h => h) (Or.inl ⟨by rfl, ?_⟩) hHeld ?_ ?_
    rotate_left
    · rintro w' ⟨s0, s1⟩
      refine (run_ldm 41 (.tmp 28) (by rfl) w.heap.size 0 (by rfl) (fe P.x) (s0.blk 0 rfl) (feP_x _ _ _ _) Try.underlying41 (m := 16) (by kernel_rfl) (fe_length _)).trans ?_; with_reducible rfl
    rotate_left
    · simp only [Act.put, OpenRow.s1, OpenRow.s2, OpenRow.s3, i64_w, i32_w]; rfl
    refine take_ (i := 6) (N := some 32) (v := ?_) (a' := ?_) #[true, true, true, true, false, true, true, true, false, false, false, false, false] rfl rfl (by kernel_rfl) (fun _ _ _ h => h) (Or.inl ⟨by rfl, ?_⟩) hHeld ?_ ?_
    rotate_left
    · rintro w' ⟨s0, s1⟩
      refine (run_ldm 41 (.tmp 31) (by rfl) (w.heap.size + 1) 16 (by rfl) (fe Q.y) (s0.blk 1 rfl) (feP_y _ _ _ _) Try.underlying41 (m := 16) (by kernel_rfl) (fe_length _)).trans ?_; with_reducible rfl
    rotate_left
    · simp only [Act.put, OpenRow.s1, OpenRow.s2, OpenRow.s3, i64_w, i32_w]; rfl
    refine take_ (i := 8) (N := some 34) (v := ?_) (a' := ?_) #[true, true, true, true, false, true, true, true, true, false, false, false, false] rfl rfl (by kernel_rfl) (fun _ _ _ h => h) (Or.inl ⟨by rfl, ?_⟩) hHeld ?_ ?_
    rotate_left
    · rintro w' ⟨s0, s1⟩
      refine (run_ldm 41 (.tmp 33) (by rfl) (w.heap.size + 1) 0 (by rfl) (fe Q.x) (s0.blk 1 rfl) (feP_x _ _ _ _) Try.underlying41 (m := 16) (by kernel_rfl) (fe_length _)).trans ?_; with_reducible rfl
    rotate_left
    · simp only [Act.put, OpenRow.s1, OpenRow.s2, OpenRow.s3, i64_w, i32_w]; rfl
    refine ch1 [4, 9, 10] 3 rfl (i1 := 11) (n1 := 8) (o1 := _) (Z1 := .cells (arr .i64 z16) 41) (lf := #[true, true, true, true, true, true, true, true, true, true, true, true, false]) (f := 1) (VS := (fun k l => match k with | 0 =>  l = [] | 1 => ∃ k1, (k1 < BB) ∧ (k1 % FldB.PP = v3) ∧ l = [(30, .agg (arr .i64 (fe k1)))] | 2 => ∃ k1, ∃ k2, (k1 < BB) ∧ (k1 % FldB.PP = v3) ∧ (k2 < BB) ∧ (k2 % FldB.PP = v4) ∧ l = [(30, .agg (arr .i64 (fe k1))), (35, .agg (arr .i64 (fe k2)))] | _ => ∃ k1, ∃ k2, ∃ cb, (k1 < BB) ∧ (k1 % FldB.PP = v3) ∧ (k2 < BB) ∧ (k2 % FldB.PP = v4) ∧ (cb < BB) ∧ (cb % FldB.PP = vb) ∧ l = [(30, .agg (arr .i64 (fe k1))), (35, .agg (arr .i64 (fe k2))), (36, .agg (arr .i64 (fe cb)))])) (by kernel_rfl) rfl rfl rfl rfl ?hz1_2 (fun W1 W2 hs hb => ?hT_2) ?hV_2 ?ha_2 hHeld ?hB_2 ?hfin_2
    case hz1_2 => intro ρ W; go_simp; first | done | exact ⟨rfl, rfl⟩ | rfl
    case hT_2 =>
      obtain ⟨h0, h1⟩ := hs
      exact ⟨St.step h0 hb, blk_below h1 hb⟩
    case hV_2 => exact rfl
    case ha_2 => (simp only [Act.put, OpenRow.s1, OpenRow.s2, OpenRow.s3] <;> rfl)
    case hB_2 =>
      refine ⟨?_, ?_, ?_, trivial⟩
      · refine ⟨_, _, rfl, rfl, by decide, fun l hl x Az hAz W1 hs K hK => ?_⟩
        subst hl
        simp only [putAll, List.take_succ_cons, List.take_zero, List.take_nil, Act.put, OpenRow.s1, OpenRow.s2, OpenRow.s3] at hAz
        subst hAz
        refine goes_ Try.func21 (by kernel_rfl) rfl #[.agg (arr .i64 (fe P.y)), .agg (arr .i64 (fe P.x))] (by rfl) rfl rfl (by simp only [List.map_toArray, List.map_cons, List.map_nil] <;> rfl) ?_
        with_reducible refine ((AD1.out _).c).mono ?_
        rintro e W2 ⟨k1, hk1, mk1, rfl, hb⟩
        exact ⟨_, rfl, hK _ _ ⟨k1, hk1, mk1, rfl⟩ hb⟩
      · refine ⟨_, _, rfl, rfl, by decide, fun l hl x Az hAz W1 hs K hK => ?_⟩
        obtain ⟨k1, hk1, mk1, rfl⟩ := hl
        simp only [putAll, List.take_succ_cons, List.take_zero, List.take_nil, Act.put, OpenRow.s1, OpenRow.s2, OpenRow.s3] at hAz
        subst hAz
        refine goes_ Try.func21 (by kernel_rfl) rfl #[.agg (arr .i64 (fe Q.y)), .agg (arr .i64 (fe Q.x))] (by rfl) rfl rfl (by simp only [List.map_toArray, List.map_cons, List.map_nil] <;> rfl) ?_
        with_reducible refine ((AD2.out _).c).mono ?_
        rintro e W2 ⟨k2, hk2, mk2, rfl, hb⟩
        exact ⟨_, rfl, hK _ _ ⟨k1, k2, hk1, mk1, hk2, mk2, rfl⟩ hb⟩
      · refine ⟨_, _, rfl, rfl, by decide, fun l hl x Az hAz W1 hs K hK => ?_⟩
        obtain ⟨k1, k2, hk1, mk1, hk2, mk2, rfl⟩ := hl
        simp only [putAll, List.take_succ_cons, List.take_zero, List.take_nil, Act.put, OpenRow.s1, OpenRow.s2, OpenRow.s3] at hAz
        subst hAz
        refine goes_ Try.func51 (by kernel_rfl) rfl #[.agg (arr .i64 (fe k1)), .agg (arr .i64 (fe k2))] (by rfl) rfl rfl (by simp only [List.map_toArray, List.map_cons, List.map_nil] <;> rfl) ?_
        with_reducible refine ((MB.out _ _ _ hk1 hk2 mk1 mk2).c).mono ?_
        rintro e W2 ⟨cb, hcb, mcb, rfl, hb⟩
        exact ⟨_, rfl, hK _ _ ⟨k1, k2, cb, hk1, mk1, hk2, mk2, hcb, mcb, rfl⟩ hb⟩
    case hfin_2 =>
      intro l g11_ Az w9 hl hAz hs9 hG11 hE11
      obtain ⟨k1, k2, cb, hk1, mk1, hk2, mk2, hcb, mcb, rfl⟩ := hl
      have hs9_ := hs9
      obtain ⟨hS0, hS1⟩ := hs9_
      have T9 := Aside0.mk hS0
      have Z9_1 := Aside0.mk hS1
      have GG11 := Aside0.mk hG11
      have EE11 := Aside0.mk (Nat.le_trans U.out.size hE11)
      have MM11_0 := Aside0.mk (ne_new LA.out hE11)
      have hHeld := hs9
      clear hG11 hE11
      simp only [ptr, putAll, List.take_succ_cons, List.take_zero, List.take_nil, Act.put, OpenRow.s1, OpenRow.s2, OpenRow.s3] at hAz
      subst hAz
      refine last_ (i := 12) (N := none) #[true, true, true, true, true, true, true, true, true, true, true, true, true] rfl rfl (by kernel_rfl) (by decide) (fun K hK => ?_)
      refine st_step (by rfl) rfl 41 (.tmp 8) (.tmp 36) rfl g11_ rfl rfl GG11.out (m := 16) (by kernel_rfl) (fe_length _) (by rw [fe_length]; rfl) ?_
      intro w6 h1 h2 h3 h4
      have NB := Aside0.mk h1
      have V := Aside0.mk (St.other T9.out h2 h3 EE11.out)
      have LA2 := Aside0.mk ((h2 _ MM11_0.out).trans Z9_1.out)
      clear h1 h2 h3 h4
      refine hK.out _ _ ?_
      clear hK K
      refine done_ (by kernel_rfl) ?_
  
      (repeat go_step)
      obtain ⟨n2, hn⟩ : ∃ g, g = g11_ := ⟨_, rfl⟩
      rw [← hn] at NB ⊢
      clear hn
      have Hcb := Aside0.mk hcb
      have Mcb := Aside0.mk mcb
      clear hk1 mk1 hk2 mk2 hcb mcb U T9 GG11 EE11 LA Z9_1 MM11_0
      have U := Aside0.mk (V.out.drew)
      have LA := Aside0.mk (blk_drew LA2.out)
      have LB := Aside0.mk (blk_drew NB.out)
      clear V NB LA2
      refine start_ (n := 9) (S := fun w' => St w [⟨43, .i64, feP P.x P.y P.z P.t⟩, ⟨43, .i64, feP Q.x Q.y Q.z Q.t⟩, ⟨41, .i64, fe d2⟩, ⟨43, .i64, zP⟩] w' ∧ w'.heap[n1]? = some (.cells (arr .i64 (fe ca)) 41 (0, 0)) ∧ w'.heap[n2]? = some (.cells (arr .i64 (fe cb)) 41 (0, 0))) (ds := [8]) #[false, false, false, false, false, false, false, false, false] (by kernel_rfl) rfl rfl ⟨U.out, LA.out, LB.out⟩ (fun hHeld => ?_)
      refine pure_ (i := 0) (N := some 37) (v := ?_) (a' := ?_) #[true, false, false, false, false, false, false, false, false] rfl rfl (by kernel_rfl) (fun _ _ _ h => h) (Or.inl ⟨by rfl, ?_⟩) ?_ ?_
      rotate_left
      · intro w'; go_simp; with_reducible rfl
      rotate_left
      · simp only [Act.put, OpenRow.s1, OpenRow.s2, OpenRow.s3, i64_w, i32_w]; rfl
      refine pure_ (i := 4) (N := some 41) (v := ?_) (a' := ?_) #[true, false, false, false, true, false, false, false, false] rfl rfl (by kernel_rfl) (fun _ _ _ h => h) (Or.inl ⟨by rfl, ?_⟩) ?_ ?_
      rotate_left
      · intro w'; go_simp; with_reducible rfl
      rotate_left
      · simp only [Act.put, OpenRow.s1, OpenRow.s2, OpenRow.s3, i64_w, i32_w]; rfl
      refine take_ (i := 1) (N := some 38) (v := ?_) (a' := ?_) #[true, true, false, false, true, false, false, false, false] rfl rfl (by kernel_rfl) (fun _ _ _ h => h) (Or.inl ⟨by rfl, ?_⟩) hHeld ?_ ?_
      rotate_left
      · rintro w' ⟨s0, s1, s2⟩
        refine (run_ldm 41 (.tmp 37) (by rfl) w.heap.size 48 (by rfl) (fe P.t) (s0.blk 0 rfl) (feP_t _ _ _ _) Try.underlying41 (m := 16) (by kernel_rfl) (fe_length _)).trans ?_; with_reducible rfl
      rotate_left
      · simp only [Act.put, OpenRow.s1, OpenRow.s2, OpenRow.s3, i64_w, i32_w]; rfl
      refine take_ (i := 2) (N := some 39) (v := ?_) (a' := ?_) #[true, true, true, false, true, false, false, false, false] rfl rfl (by kernel_rfl) (fun _ _ _ h => h) (Or.inl ⟨by rfl, ?_⟩) hHeld ?_ ?_
      rotate_left
      · rintro w' ⟨s0, s1, s2⟩
        refine (run_ld 41 (.tmp 5) (by rfl) (w.heap.size + 1 + 1) (by rfl) (s0.blk 2 rfl) Try.underlying41 (m := 16) (by kernel_rfl) (fe_length _)).trans ?_; with_reducible rfl
      rotate_left
      · simp only [Act.put, OpenRow.s1, OpenRow.s2, OpenRow.s3, i64_w, i32_w]; rfl
      refine take_ (i := 5) (N := some 42) (v := ?_) (a' := ?_) #[true, true, true, false, true, true, false, false, false] rfl rfl (by kernel_rfl) (fun _ _ _ h => h) (Or.inl ⟨by rfl, ?_⟩) hHeld ?_ ?_
      rotate_left
      · rintro w' ⟨s0, s1, s2⟩
        refine (run_ldm 41 (.tmp 41) (by rfl) (w.heap.size + 1) 48 (by rfl) (fe Q.t) (s0.blk 1 rfl) (feP_t _ _ _ _) Try.underlying41 (m := 16) (by kernel_rfl) (fe_length _)).trans ?_; with_reducible rfl
      rotate_left
      · simp only [Act.put, OpenRow.s1, OpenRow.s2, OpenRow.s3, i64_w, i32_w]; rfl
      refine ch1 [3, 6] 2 rfl (i1 := 7) (n1 := 9) (o1 := _) (Z1 := .cells (arr .i64 z16) 41) (lf := #[true, true, true, true, true, true, true, true, false]) (f := 1) (VS := (fun k l => match k with | 0 =>  l = [] | 1 => ∃ k1, (k1 < BB) ∧ (k1 % FldB.PP = v5) ∧ l = [(40, .agg (arr .i64 (fe k1)))] | _ => ∃ k1, ∃ cc, (k1 < BB) ∧ (k1 % FldB.PP = v5) ∧ (cc < BB) ∧ (cc % FldB.PP = vc) ∧ l = [(40, .agg (arr .i64 (fe k1))), (43, .agg (arr .i64 (fe cc)))])) (by kernel_rfl) rfl rfl rfl rfl ?hz1_3 (fun W1 W2 hs hb => ?hT_3) ?hV_3 ?ha_3 hHeld ?hB_3 ?hfin_3
      case hz1_3 => intro ρ W; go_simp; first | done | exact ⟨rfl, rfl⟩ | rfl
      case hT_3 =>
        obtain ⟨h0, h1, h2⟩ := hs
        exact ⟨St.step h0 hb, blk_below h1 hb, blk_below h2 hb⟩
      case hV_3 => exact rfl
      case ha_3 => (simp only [Act.put, OpenRow.s1, OpenRow.s2, OpenRow.s3] <;> rfl)
      case hB_3 =>
        refine ⟨?_, ?_, trivial⟩
        · refine ⟨_, _, rfl, rfl, by decide, fun l hl x Az hAz W1 hs K hK => ?_⟩
          subst hl
          simp only [putAll, List.take_succ_cons, List.take_zero, List.take_nil, Act.put, OpenRow.s1, OpenRow.s2, OpenRow.s3] at hAz
          subst hAz
          refine goes_ Try.func51 (by kernel_rfl) rfl #[.agg (arr .i64 (fe P.t)), .agg (arr .i64 (fe d2))] (by rfl) rfl rfl (by simp only [List.map_toArray, List.map_cons, List.map_nil] <;> rfl) ?_
          with_reducible refine ((MT.out _).c).mono ?_
          rintro e W2 ⟨k1, hk1, mk1, rfl, hb⟩
          exact ⟨_, rfl, hK _ _ ⟨k1, hk1, mk1, rfl⟩ hb⟩
        · refine ⟨_, _, rfl, rfl, by decide, fun l hl x Az hAz W1 hs K hK => ?_⟩
          obtain ⟨k1, hk1, mk1, rfl⟩ := hl
          simp only [putAll, List.take_succ_cons, List.take_zero, List.take_nil, Act.put, OpenRow.s1, OpenRow.s2, OpenRow.s3] at hAz
          subst hAz
          refine goes_ Try.func51 (by kernel_rfl) rfl #[.agg (arr .i64 (fe k1)), .agg (arr .i64 (fe Q.t))] (by rfl) rfl rfl (by simp only [List.map_toArray, List.map_cons, List.map_nil] <;> rfl) ?_
          with_reducible refine ((MC.out _ _ hk1 mk1).c).mono ?_
          rintro e W2 ⟨cc, hcc, mcc, rfl, hb⟩
          exact ⟨_, rfl, hK _ _ ⟨k1, cc, hk1, mk1, hcc, mcc, rfl⟩ hb⟩
      case hfin_3 =>
        intro l g7_ Az w9 hl hAz hs9 hG7 hE7
        obtain ⟨k1, cc, hk1, mk1, hcc, mcc, rfl⟩ := hl
        have hs9_ := hs9
        obtain ⟨hS0, hS1, hS2⟩ := hs9_
        have T9 := Aside0.mk hS0
        have Z9_1 := Aside0.mk hS1
        have Z9_2 := Aside0.mk hS2
        have GG7 := Aside0.mk hG7
        have EE7 := Aside0.mk (Nat.le_trans U.out.size hE7)
        have MM7_0 := Aside0.mk (ne_new LA.out hE7)
        have MM7_1 := Aside0.mk (ne_new LB.out hE7)
        have hHeld := hs9
        clear hG7 hE7
        simp only [ptr, putAll, List.take_succ_cons, List.take_zero, List.take_nil, Act.put, OpenRow.s1, OpenRow.s2, OpenRow.s3] at hAz
        subst hAz
        refine last_ (i := 8) (N := none) #[true, true, true, true, true, true, true, true, true] rfl rfl (by kernel_rfl) (by decide) (fun K hK => ?_)
        refine st_step (by rfl) rfl 41 (.tmp 9) (.tmp 43) rfl g7_ rfl rfl GG7.out (m := 16) (by kernel_rfl) (fe_length _) (by rw [fe_length]; rfl) ?_
        intro w6 h1 h2 h3 h4
        have NB := Aside0.mk h1
        have V := Aside0.mk (St.other T9.out h2 h3 EE7.out)
        have LA2 := Aside0.mk ((h2 _ MM7_0.out).trans Z9_1.out)
        have LB2 := Aside0.mk ((h2 _ MM7_1.out).trans Z9_2.out)
        clear h1 h2 h3 h4
        refine hK.out _ _ ?_
        clear hK K
        refine done_ (by kernel_rfl) ?_
  
        (repeat go_step)
        obtain ⟨n3, hn⟩ : ∃ g, g = g7_ := ⟨_, rfl⟩
        rw [← hn] at NB ⊢
        clear hn
        have Hcc := Aside0.mk hcc
        have Mcc := Aside0.mk mcc
        clear hk1 mk1 hcc mcc U T9 GG7 EE7 LA LB Z9_1 Z9_2 MM7_0 MM7_1
        have U := Aside0.mk (V.out.drew)
        have LA := Aside0.mk (blk_drew LA2.out)
        have LB := Aside0.mk (blk_drew LB2.out)
        have LC := Aside0.mk (blk_drew NB.out)
        clear V NB LA2 LB2
        refine start_ (n := 10) (S := fun w' => St w [⟨43, .i64, feP P.x P.y P.z P.t⟩, ⟨43, .i64, feP Q.x Q.y Q.z Q.t⟩, ⟨41, .i64, fe d2⟩, ⟨43, .i64, zP⟩] w' ∧ w'.heap[n1]? = some (.cells (arr .i64 (fe ca)) 41 (0, 0)) ∧ w'.heap[n2]? = some (.cells (arr .i64 (fe cb)) 41 (0, 0)) ∧ w'.heap[n3]? = some (.cells (arr .i64 (fe cc)) 41 (0, 0))) (ds := [9]) #[false, false, false, false, false, false, false, false, false, false] (by kernel_rfl) rfl rfl ⟨U.out, LA.out, LB.out, LC.out⟩ (fun hHeld => ?_)
        refine pure_ (i := 0) (N := some 44) (v := ?_) (a' := ?_) #[true, false, false, false, false, false, false, false, false, false] rfl rfl (by kernel_rfl) (fun _ _ _ h => h) (Or.inl ⟨by rfl, ?_⟩) ?_ ?_
        rotate_left
        · intro w'; go_simp; with_reducible rfl
        rotate_left
        · simp only [Act.put, OpenRow.s1, OpenRow.s2, OpenRow.s3, i64_w, i32_w]; rfl
        refine pure_ (i := 2) (N := some 46) (v := ?_) (a' := ?_) #[true, false, true, false, false, false, false, false, false, false] rfl rfl (by kernel_rfl) (fun _ _ _ h => h) (Or.inl ⟨by rfl, ?_⟩) ?_ ?_
        rotate_left
        · intro w'; go_simp; with_reducible rfl
        rotate_left
        · simp only [Act.put, OpenRow.s1, OpenRow.s2, OpenRow.s3, i64_w, i32_w]; rfl
        refine pure_ (i := 5) (N := some 49) (v := ?_) (a' := ?_) #[true, false, true, false, false, true, false, false, false, false] rfl rfl (by kernel_rfl) (fun _ _ _ h => h) (Or.inl ⟨by rfl, ?_⟩) ?_ ?_
        rotate_left
        · intro w'; go_simp; with_reducible rfl
        rotate_left
        · simp only [Act.put, OpenRow.s1, OpenRow.s2, OpenRow.s3, i64_w, i32_w]; rfl
        refine take_ (i := 1) (N := some 45) (v := ?_) (a' := ?_) #[true, true, true, false, false, true, false, false, false, false] rfl rfl (by kernel_rfl) (fun _ _ _ h => h) (Or.inl ⟨by rfl, ?_⟩) hHeld ?_ ?_
        rotate_left
        · rintro w' ⟨s0, s1, s2, s3⟩
          refine (run_ldm 41 (.tmp 44) (by rfl) w.heap.size 32 (by rfl) (fe P.z) (s0.blk 0 rfl) (feP_z _ _ _ _) Try.underlying41 (m := 16) (by kernel_rfl) (fe_length _)).trans ?_; with_reducible rfl
        rotate_left
        · simp only [Act.put, OpenRow.s1, OpenRow.s2, OpenRow.s3, i64_w, i32_w]; rfl
        refine take_ (i := 3) (N := some 47) (v := ?_) (a' := ?_) #[true, true, true, true, false, true, false, false, false, false] rfl rfl (by kernel_rfl) (fun _ _ _ h => h) (Or.inl ⟨by rfl, ?_⟩) hHeld ?_ ?_
        rotate_left
        · rintro w' ⟨s0, s1, s2, s3⟩
          refine (run_ldm 41 (.tmp 46) (by rfl) w.heap.size 32 (by rfl) (fe P.z) (s0.blk 0 rfl) (feP_z _ _ _ _) Try.underlying41 (m := 16) (by kernel_rfl) (fe_length _)).trans ?_; with_reducible rfl
        rotate_left
        · simp only [Act.put, OpenRow.s1, OpenRow.s2, OpenRow.s3, i64_w, i32_w]; rfl
        refine take_ (i := 6) (N := some 50) (v := ?_) (a' := ?_) #[true, true, true, true, false, true, true, false, false, false] rfl rfl (by kernel_rfl) (fun _ _ _ h => h) (Or.inl ⟨by rfl, ?_⟩) hHeld ?_ ?_
        rotate_left
        · rintro w' ⟨s0, s1, s2, s3⟩
          refine (run_ldm 41 (.tmp 49) (by rfl) (w.heap.size + 1) 32 (by rfl) (fe Q.z) (s0.blk 1 rfl) (feP_z _ _ _ _) Try.underlying41 (m := 16) (by kernel_rfl) (fe_length _)).trans ?_; with_reducible rfl
        rotate_left
        · simp only [Act.put, OpenRow.s1, OpenRow.s2, OpenRow.s3, i64_w, i32_w]; rfl
        refine ch1 [4, 7] 2 rfl (i1 := 8) (n1 := 10) (o1 := _) (Z1 := .cells (arr .i64 z16) 41) (lf := #[true, true, true, true, true, true, true, true, true, false]) (f := 1) (VS := (fun k l => match k with | 0 =>  l = [] | 1 => ∃ k1, (k1 < BB) ∧ (k1 % FldB.PP = v6) ∧ l = [(48, .agg (arr .i64 (fe k1)))] | _ => ∃ k1, ∃ cd, (k1 < BB) ∧ (k1 % FldB.PP = v6) ∧ (cd < BB) ∧ (cd % FldB.PP = vd) ∧ l = [(48, .agg (arr .i64 (fe k1))), (51, .agg (arr .i64 (fe cd)))])) (by kernel_rfl) rfl rfl rfl rfl ?hz1_4 (fun W1 W2 hs hb => ?hT_4) ?hV_4 ?ha_4 hHeld ?hB_4 ?hfin_4
        case hz1_4 => intro ρ W; go_simp; first | done | exact ⟨rfl, rfl⟩ | rfl
        case hT_4 =>
          obtain ⟨h0, h1, h2, h3⟩ := hs
          exact ⟨St.step h0 hb, blk_below h1 hb, blk_below h2 hb, blk_below h3 hb⟩
        case hV_4 => exact rfl
        case ha_4 => (simp only [Act.put, OpenRow.s1, OpenRow.s2, OpenRow.s3] <;> rfl)
        case hB_4 =>
          refine ⟨?_, ?_, trivial⟩
          · refine ⟨_, _, rfl, rfl, by decide, fun l hl x Az hAz W1 hs K hK => ?_⟩
            subst hl
            simp only [putAll, List.take_succ_cons, List.take_zero, List.take_nil, Act.put, OpenRow.s1, OpenRow.s2, OpenRow.s3] at hAz
            subst hAz
            refine goes_ Try.func21 (by kernel_rfl) rfl #[.agg (arr .i64 (fe P.z)), .agg (arr .i64 (fe P.z))] (by rfl) rfl rfl (by simp only [List.map_toArray, List.map_cons, List.map_nil] <;> rfl) ?_
            with_reducible refine ((AZ.out _).c).mono ?_
            rintro e W2 ⟨k1, hk1, mk1, rfl, hb⟩
            exact ⟨_, rfl, hK _ _ ⟨k1, hk1, mk1, rfl⟩ hb⟩
          · refine ⟨_, _, rfl, rfl, by decide, fun l hl x Az hAz W1 hs K hK => ?_⟩
            obtain ⟨k1, hk1, mk1, rfl⟩ := hl
            simp only [putAll, List.take_succ_cons, List.take_zero, List.take_nil, Act.put, OpenRow.s1, OpenRow.s2, OpenRow.s3] at hAz
            subst hAz
            refine goes_ Try.func51 (by kernel_rfl) rfl #[.agg (arr .i64 (fe k1)), .agg (arr .i64 (fe Q.z))] (by rfl) rfl rfl (by simp only [List.map_toArray, List.map_cons, List.map_nil] <;> rfl) ?_
            with_reducible refine ((MD.out _ _ hk1 mk1).c).mono ?_
            rintro e W2 ⟨cd, hcd, mcd, rfl, hb⟩
            exact ⟨_, rfl, hK _ _ ⟨k1, cd, hk1, mk1, hcd, mcd, rfl⟩ hb⟩
        case hfin_4 =>
          intro l g8_ Az w9 hl hAz hs9 hG8 hE8
          obtain ⟨k1, cd, hk1, mk1, hcd, mcd, rfl⟩ := hl
          have hs9_ := hs9
          obtain ⟨hS0, hS1, hS2, hS3⟩ := hs9_
          have T9 := Aside0.mk hS0
          have Z9_1 := Aside0.mk hS1
          have Z9_2 := Aside0.mk hS2
          have Z9_3 := Aside0.mk hS3
          have GG8 := Aside0.mk hG8
          have EE8 := Aside0.mk (Nat.le_trans U.out.size hE8)
          have MM8_0 := Aside0.mk (ne_new LA.out hE8)
          have MM8_1 := Aside0.mk (ne_new LB.out hE8)
          have MM8_2 := Aside0.mk (ne_new LC.out hE8)
          have hHeld := hs9
          clear hG8 hE8
          simp only [ptr, putAll, List.take_succ_cons, List.take_zero, List.take_nil, Act.put, OpenRow.s1, OpenRow.s2, OpenRow.s3] at hAz
          subst hAz
          refine last_ (i := 9) (N := none) #[true, true, true, true, true, true, true, true, true, true] rfl rfl (by kernel_rfl) (by decide) (fun K hK => ?_)
          refine st_step (by rfl) rfl 41 (.tmp 10) (.tmp 51) rfl g8_ rfl rfl GG8.out (m := 16) (by kernel_rfl) (fe_length _) (by rw [fe_length]; rfl) ?_
          intro w6 h1 h2 h3 h4
          have NB := Aside0.mk h1
          have V := Aside0.mk (St.other T9.out h2 h3 EE8.out)
          have LA2 := Aside0.mk ((h2 _ MM8_0.out).trans Z9_1.out)
          have LB2 := Aside0.mk ((h2 _ MM8_1.out).trans Z9_2.out)
          have LC2 := Aside0.mk ((h2 _ MM8_2.out).trans Z9_3.out)
          clear h1 h2 h3 h4
          refine hK.out _ _ ?_
          clear hK K
          refine done_ (by kernel_rfl) ?_
  
          obtain ⟨n4, hn⟩ : ∃ g, g = g8_ := ⟨_, rfl⟩
          rw [← hn] at NB ⊢
          clear hn
          have Hcd := Aside0.mk hcd
          have Mcd := Aside0.mk mcd
          clear hk1 mk1 hcd mcd U T9 GG8 EE8 LA LB LC Z9_1 Z9_2 Z9_3 MM8_0 MM8_1 MM8_2
          have U := Aside0.mk V.out
          have LA := Aside0.mk LA2.out
          have LB := Aside0.mk LB2.out
          have LC := Aside0.mk LC2.out
          have LD := Aside0.mk NB.out
          clear V NB LA2 LB2 LC2
          go_wp2_with (first
            | ((with_reducible refine gate_dst (N := 52) rfl ?_); refine ld_arr rfl 41 (.tmp 8) rfl n2 rfl LB.out Try.underlying41 (m := 16) (by kernel_rfl) (fe_length _) ?_)
            | ((with_reducible refine gate_dst (N := 53) rfl ?_); refine ld_arr rfl 41 (.tmp 7) rfl n1 rfl LA.out Try.underlying41 (m := 16) (by kernel_rfl) (fe_length _) ?_)
            | ((with_reducible refine ((SE.out _ _ _ Hcb.out Hca.out Mcb.out Mca.out).c).mono ?_); rintro e w5 ⟨ce, hce, mce, rfl, hb⟩; have Hce := Aside0.mk hce; have Mce := Aside0.mk mce; have U := Aside0.mk (U.out.step hb); have LA := Aside0.mk (blk_below LA.out hb); have LB := Aside0.mk (blk_below LB.out hb); have LC := Aside0.mk (blk_below LC.out hb); have LD := Aside0.mk (blk_below LD.out hb); clear hb hce mce)
            | (refine st_arr rfl 41 (.tmp 11) (.tmp 54) rfl w5.heap.size (xs := fe ce) rfl rfl (blk_new w5 (.cells (arr .i64 z16) 41)) (m := 16) (by kernel_rfl) (fe_length _) (by rw [fe_length]; rfl) ?_; intro w' h1 h2 h4 h3; have LE := Aside0.mk h1; have LA := Aside0.mk ((h2 _ (ne_of_blk LA.out)).trans (blk_alloc LA.out _)); have LB := Aside0.mk ((h2 _ (ne_of_blk LB.out)).trans (blk_alloc LB.out _)); have LC := Aside0.mk ((h2 _ (ne_of_blk LC.out)).trans (blk_alloc LC.out _)); have LD := Aside0.mk ((h2 _ (ne_of_blk LD.out)).trans (blk_alloc LD.out _)); have U := Aside0.mk (St.other (U.out.alloc (.cells (arr .i64 z16) 41)) h2 h3 U.out.size); clear h1 h2 h3 h4)
            | ((with_reducible refine gate_dst (N := 55) rfl ?_); refine ld_arr rfl 41 (.tmp 10) rfl n4 rfl LD.out Try.underlying41 (m := 16) (by kernel_rfl) (fe_length _) ?_)
            | ((with_reducible refine gate_dst (N := 56) rfl ?_); refine ld_arr rfl 41 (.tmp 9) rfl n3 rfl LC.out Try.underlying41 (m := 16) (by kernel_rfl) (fe_length _) ?_)
            | ((with_reducible refine ((SF.out _ _ _ Hcd.out Hcc.out Mcd.out Mcc.out).c).mono ?_); rintro e w6_ ⟨cf, hcf, mcf, rfl, hb⟩; have Hcf := Aside0.mk hcf; have Mcf := Aside0.mk mcf; have U := Aside0.mk (U.out.step hb); have LA := Aside0.mk (blk_below LA.out hb); have LB := Aside0.mk (blk_below LB.out hb); have LC := Aside0.mk (blk_below LC.out hb); have LD := Aside0.mk (blk_below LD.out hb); have LE := Aside0.mk (blk_below LE.out hb); clear hb hcf mcf)
            | (refine st_arr rfl 41 (.tmp 12) (.tmp 57) rfl w6_.heap.size (xs := fe cf) rfl rfl (blk_new w6_ (.cells (arr .i64 z16) 41)) (m := 16) (by kernel_rfl) (fe_length _) (by rw [fe_length]; rfl) ?_; intro w' h1 h2 h4 h3; have LF := Aside0.mk h1; have LA := Aside0.mk ((h2 _ (ne_of_blk LA.out)).trans (blk_alloc LA.out _)); have LB := Aside0.mk ((h2 _ (ne_of_blk LB.out)).trans (blk_alloc LB.out _)); have LC := Aside0.mk ((h2 _ (ne_of_blk LC.out)).trans (blk_alloc LC.out _)); have LD := Aside0.mk ((h2 _ (ne_of_blk LD.out)).trans (blk_alloc LD.out _)); have LE := Aside0.mk ((h2 _ (ne_of_blk LE.out)).trans (blk_alloc LE.out _)); have U := Aside0.mk (St.other (U.out.alloc (.cells (arr .i64 z16) 41)) h2 h3 U.out.size); clear h1 h2 h3 h4)
            | ((with_reducible refine gate_dst (N := 58) rfl ?_); refine ld_arr rfl 41 (.tmp 10) rfl n4 rfl LD.out Try.underlying41 (m := 16) (by kernel_rfl) (fe_length _) ?_)
            | ((with_reducible refine gate_dst (N := 59) rfl ?_); refine ld_arr rfl 41 (.tmp 9) rfl n3 rfl LC.out Try.underlying41 (m := 16) (by kernel_rfl) (fe_length _) ?_)
            | ((with_reducible refine ((AG.out _ _ _ Hcd.out Hcc.out Mcd.out Mcc.out).c).mono ?_); rintro e w7 ⟨cg, hcg, mcg, rfl, hb⟩; have Hcg := Aside0.mk hcg; have Mcg := Aside0.mk mcg; have U := Aside0.mk (U.out.step hb); have LA := Aside0.mk (blk_below LA.out hb); have LB := Aside0.mk (blk_below LB.out hb); have LC := Aside0.mk (blk_below LC.out hb); have LD := Aside0.mk (blk_below LD.out hb); have LE := Aside0.mk (blk_below LE.out hb); have LF := Aside0.mk (blk_below LF.out hb); clear hb hcg mcg)
            | (refine st_arr rfl 41 (.tmp 13) (.tmp 60) rfl w7.heap.size (xs := fe cg) rfl rfl (blk_new w7 (.cells (arr .i64 z16) 41)) (m := 16) (by kernel_rfl) (fe_length _) (by rw [fe_length]; rfl) ?_; intro w' h1 h2 h4 h3; have LG := Aside0.mk h1; have LA := Aside0.mk ((h2 _ (ne_of_blk LA.out)).trans (blk_alloc LA.out _)); have LB := Aside0.mk ((h2 _ (ne_of_blk LB.out)).trans (blk_alloc LB.out _)); have LC := Aside0.mk ((h2 _ (ne_of_blk LC.out)).trans (blk_alloc LC.out _)); have LD := Aside0.mk ((h2 _ (ne_of_blk LD.out)).trans (blk_alloc LD.out _)); have LE := Aside0.mk ((h2 _ (ne_of_blk LE.out)).trans (blk_alloc LE.out _)); have LF := Aside0.mk ((h2 _ (ne_of_blk LF.out)).trans (blk_alloc LF.out _)); have U := Aside0.mk (St.other (U.out.alloc (.cells (arr .i64 z16) 41)) h2 h3 U.out.size); clear h1 h2 h3 h4)
            | ((with_reducible refine gate_dst (N := 61) rfl ?_); refine ld_arr rfl 41 (.tmp 8) rfl n2 rfl LB.out Try.underlying41 (m := 16) (by kernel_rfl) (fe_length _) ?_)
            | ((with_reducible refine gate_dst (N := 62) rfl ?_); refine ld_arr rfl 41 (.tmp 7) rfl n1 rfl LA.out Try.underlying41 (m := 16) (by kernel_rfl) (fe_length _) ?_)
            | ((with_reducible refine ((AH.out _ _ _ Hcb.out Hca.out Mcb.out Mca.out).c).mono ?_); rintro e w8 ⟨ch, hch, mch, rfl, hb⟩; have Hch := Aside0.mk hch; have Mch := Aside0.mk mch; have U := Aside0.mk (U.out.step hb); have LA := Aside0.mk (blk_below LA.out hb); have LB := Aside0.mk (blk_below LB.out hb); have LC := Aside0.mk (blk_below LC.out hb); have LD := Aside0.mk (blk_below LD.out hb); have LE := Aside0.mk (blk_below LE.out hb); have LF := Aside0.mk (blk_below LF.out hb); have LG := Aside0.mk (blk_below LG.out hb); clear hb hch mch)
            | (refine st_arr rfl 41 (.tmp 14) (.tmp 63) rfl w8.heap.size (xs := fe ch) rfl rfl (blk_new w8 (.cells (arr .i64 z16) 41)) (m := 16) (by kernel_rfl) (fe_length _) (by rw [fe_length]; rfl) ?_; intro w' h1 h2 h4 h3; have LH := Aside0.mk h1; have LA := Aside0.mk ((h2 _ (ne_of_blk LA.out)).trans (blk_alloc LA.out _)); have LB := Aside0.mk ((h2 _ (ne_of_blk LB.out)).trans (blk_alloc LB.out _)); have LC := Aside0.mk ((h2 _ (ne_of_blk LC.out)).trans (blk_alloc LC.out _)); have LD := Aside0.mk ((h2 _ (ne_of_blk LD.out)).trans (blk_alloc LD.out _)); have LE := Aside0.mk ((h2 _ (ne_of_blk LE.out)).trans (blk_alloc LE.out _)); have LF := Aside0.mk ((h2 _ (ne_of_blk LF.out)).trans (blk_alloc LF.out _)); have LG := Aside0.mk ((h2 _ (ne_of_blk LG.out)).trans (blk_alloc LG.out _)); have U := Aside0.mk (St.other (U.out.alloc (.cells (arr .i64 z16) 41)) h2 h3 U.out.size); clear h1 h2 h3 h4))
          obtain ⟨n5, hn⟩ : ∃ g, g = w5.heap.size := ⟨_, rfl⟩
          rw [← hn] at LE ⊢
          clear hn
          obtain ⟨n6, hn⟩ : ∃ g, g = w6_.heap.size := ⟨_, rfl⟩
          rw [← hn] at LF ⊢
          clear hn
          obtain ⟨n7, hn⟩ : ∃ g, g = w7.heap.size := ⟨_, rfl⟩
          rw [← hn] at LG ⊢
          clear hn
          obtain ⟨n8, hn⟩ : ∃ g, g = w8.heap.size := ⟨_, rfl⟩
          rw [← hn] at LH ⊢
          clear hn
          have U := Aside0.mk U.out.drew
          have LE := Aside0.mk (blk_drew LE.out)
          have LF := Aside0.mk (blk_drew LF.out)
          have LG := Aside0.mk (blk_drew LG.out)
          have LH := Aside0.mk (blk_drew LH.out)
          refine start_ (n := 14) (S := fun w' => St w [⟨43, .i64, feP P.x P.y P.z P.t⟩, ⟨43, .i64, feP Q.x Q.y Q.z Q.t⟩, ⟨41, .i64, fe d2⟩, ⟨43, .i64, zP⟩] w' ∧ w'.heap[n5]? = some (.cells (arr .i64 (fe ce)) 41 (0, 0)) ∧ w'.heap[n6]? = some (.cells (arr .i64 (fe cf)) 41 (0, 0)) ∧ w'.heap[n7]? = some (.cells (arr .i64 (fe cg)) 41 (0, 0)) ∧ w'.heap[n8]? = some (.cells (arr .i64 (fe ch)) 41 (0, 0))) (ds := [13]) #[false, false, false, false, false, false, false, false, false, false, false, false, false, false] (by kernel_rfl) rfl rfl ⟨U.out, LE.out, LF.out, LG.out, LH.out⟩ (fun hHeld => ?_)
          refine take_ (i := 0) (N := some 64) (v := ?_) (a' := ?_) #[true, false, false, false, false, false, false, false, false, false, false, false, false, false] rfl rfl (by kernel_rfl) (fun _ _ _ h => h) (Or.inl ⟨by rfl, ?_⟩) hHeld ?_ ?_
          rotate_left
          · rintro w' ⟨s0, s1, s2, s3, s4⟩
            refine (run_ld 41 (.tmp 11) (by rfl) n5 (by rfl) s1 Try.underlying41 (m := 16) (by kernel_rfl) (fe_length _)).trans ?_; with_reducible rfl
          rotate_left
          · simp only [Act.put, OpenRow.s1, OpenRow.s2, OpenRow.s3, i64_w, i32_w]; rfl
          refine take_ (i := 1) (N := some 65) (v := ?_) (a' := ?_) #[true, true, false, false, false, false, false, false, false, false, false, false, false, false] rfl rfl (by kernel_rfl) (fun _ _ _ h => h) (Or.inl ⟨by rfl, ?_⟩) hHeld ?_ ?_
          rotate_left
          · rintro w' ⟨s0, s1, s2, s3, s4⟩
            refine (run_ld 41 (.tmp 12) (by rfl) n6 (by rfl) s2 Try.underlying41 (m := 16) (by kernel_rfl) (fe_length _)).trans ?_; with_reducible rfl
          rotate_left
          · simp only [Act.put, OpenRow.s1, OpenRow.s2, OpenRow.s3, i64_w, i32_w]; rfl
          refine take_ (i := 3) (N := some 67) (v := ?_) (a' := ?_) #[true, true, false, true, false, false, false, false, false, false, false, false, false, false] rfl rfl (by kernel_rfl) (fun _ _ _ h => h) (Or.inl ⟨by rfl, ?_⟩) hHeld ?_ ?_
          rotate_left
          · rintro w' ⟨s0, s1, s2, s3, s4⟩
            refine (run_ld 41 (.tmp 13) (by rfl) n7 (by rfl) s3 Try.underlying41 (m := 16) (by kernel_rfl) (fe_length _)).trans ?_; with_reducible rfl
          rotate_left
          · simp only [Act.put, OpenRow.s1, OpenRow.s2, OpenRow.s3, i64_w, i32_w]; rfl
          refine take_ (i := 4) (N := some 68) (v := ?_) (a' := ?_) #[true, true, false, true, true, false, false, false, false, false, false, false, false, false] rfl rfl (by kernel_rfl) (fun _ _ _ h => h) (Or.inl ⟨by rfl, ?_⟩) hHeld ?_ ?_
          rotate_left
          · rintro w' ⟨s0, s1, s2, s3, s4⟩
            refine (run_ld 41 (.tmp 14) (by rfl) n8 (by rfl) s4 Try.underlying41 (m := 16) (by kernel_rfl) (fe_length _)).trans ?_; with_reducible rfl
          rotate_left
          · simp only [Act.put, OpenRow.s1, OpenRow.s2, OpenRow.s3, i64_w, i32_w]; rfl
          refine take_ (i := 6) (N := some 70) (v := ?_) (a' := ?_) #[true, true, false, true, true, false, true, false, false, false, false, false, false, false] rfl rfl (by kernel_rfl) (fun _ _ _ h => h) (Or.inl ⟨by rfl, ?_⟩) hHeld ?_ ?_
          rotate_left
          · rintro w' ⟨s0, s1, s2, s3, s4⟩
            refine (run_ld 41 (.tmp 12) (by rfl) n6 (by rfl) s2 Try.underlying41 (m := 16) (by kernel_rfl) (fe_length _)).trans ?_; with_reducible rfl
          rotate_left
          · simp only [Act.put, OpenRow.s1, OpenRow.s2, OpenRow.s3, i64_w, i32_w]; rfl
          refine take_ (i := 7) (N := some 71) (v := ?_) (a' := ?_) #[true, true, false, true, true, false, true, true, false, false, false, false, false, false] rfl rfl (by kernel_rfl) (fun _ _ _ h => h) (Or.inl ⟨by rfl, ?_⟩) hHeld ?_ ?_
          rotate_left
          · rintro w' ⟨s0, s1, s2, s3, s4⟩
            refine (run_ld 41 (.tmp 13) (by rfl) n7 (by rfl) s3 Try.underlying41 (m := 16) (by kernel_rfl) (fe_length _)).trans ?_; with_reducible rfl
          rotate_left
          · simp only [Act.put, OpenRow.s1, OpenRow.s2, OpenRow.s3, i64_w, i32_w]; rfl
          refine take_ (i := 9) (N := some 73) (v := ?_) (a' := ?_) #[true, true, false, true, true, false, true, true, false, true, false, false, false, false] rfl rfl (by kernel_rfl) (fun _ _ _ h => h) (Or.inl ⟨by rfl, ?_⟩) hHeld ?_ ?_
          rotate_left
          · rintro w' ⟨s0, s1, s2, s3, s4⟩
            refine (run_ld 41 (.tmp 11) (by rfl) n5 (by rfl) s1 Try.underlying41 (m := 16) (by kernel_rfl) (fe_length _)).trans ?_; with_reducible rfl
          rotate_left
          · simp only [Act.put, OpenRow.s1, OpenRow.s2, OpenRow.s3, i64_w, i32_w]; rfl
          refine take_ (i := 10) (N := some 74) (v := ?_) (a' := ?_) #[true, true, false, true, true, false, true, true, false, true, true, false, false, false] rfl rfl (by kernel_rfl) (fun _ _ _ h => h) (Or.inl ⟨by rfl, ?_⟩) hHeld ?_ ?_
          rotate_left
          · rintro w' ⟨s0, s1, s2, s3, s4⟩
            refine (run_ld 41 (.tmp 14) (by rfl) n8 (by rfl) s4 Try.underlying41 (m := 16) (by kernel_rfl) (fe_length _)).trans ?_; with_reducible rfl
          rotate_left
          · simp only [Act.put, OpenRow.s1, OpenRow.s2, OpenRow.s3, i64_w, i32_w]; rfl
          refine one_ (i := 2) (N := some 66) #[true, true, true, true, true, false, true, true, false, true, true, false, false, false] rfl rfl (by kernel_rfl) (by decide) (fun K hK => ?_)
          refine goes_ Try.func51 (by kernel_rfl) rfl #[.agg (arr .i64 (fe ce)), .agg (arr .i64 (fe cf))] (by rfl) rfl rfl (by simp only [List.map_toArray, List.map_cons, List.map_nil] <;> rfl) ?_
          with_reducible refine ((MM.out _ _ _ _ _ Hce.out Hcf.out Mce.out Mcf.out).c).mono ?_
          rintro e w3 ⟨x1, hx1, mx1, rfl, hb⟩
          refine ⟨_, rfl, ?_⟩
          have U1 := Aside0.mk (U.out.step hb)
          have LE1 := Aside0.mk (blk_below LE.out hb)
          have LF1 := Aside0.mk (blk_below LF.out hb)
          have LG1 := Aside0.mk (blk_below LG.out hb)
          have LH1 := Aside0.mk (blk_below LH.out hb)
          have HX1 := Aside0.mk hx1
          have MX1 := Aside0.mk mx1
          clear hb hx1 mx1
          refine hK.out _ _ ⟨U1.out, LE1.out, LF1.out, LG1.out, LH1.out⟩ (fun hHeld => ?_)
          clear hK K
          refine norm_ (a' := ?_) ?_ ?_
          rotate_left
          · show Act.put _ (some 66) _ = _
            simp only [Act.put, OpenRow.s1, OpenRow.s2, OpenRow.s3, i64_w, i32_w]
            rfl
          refine one_ (i := 5) (N := some 69) #[true, true, true, true, true, true, true, true, false, true, true, false, false, false] rfl rfl (by kernel_rfl) (by decide) (fun K hK => ?_)
          refine goes_ Try.func51 (by kernel_rfl) rfl #[.agg (arr .i64 (fe cg)), .agg (arr .i64 (fe ch))] (by rfl) rfl rfl (by simp only [List.map_toArray, List.map_cons, List.map_nil] <;> rfl) ?_
          with_reducible refine ((MM.out _ _ _ _ _ Hcg.out Hch.out Mcg.out Mch.out).c).mono ?_
          rintro e w3 ⟨x2, hx2, mx2, rfl, hb⟩
          refine ⟨_, rfl, ?_⟩
          have U2 := Aside0.mk (U1.out.step hb)
          have LE2 := Aside0.mk (blk_below LE1.out hb)
          have LF2 := Aside0.mk (blk_below LF1.out hb)
          have LG2 := Aside0.mk (blk_below LG1.out hb)
          have LH2 := Aside0.mk (blk_below LH1.out hb)
          have HX2 := Aside0.mk hx2
          have MX2 := Aside0.mk mx2
          clear hb hx2 mx2
          refine hK.out _ _ ⟨U2.out, LE2.out, LF2.out, LG2.out, LH2.out⟩ (fun hHeld => ?_)
          clear hK K
          refine norm_ (a' := ?_) ?_ ?_
          rotate_left
          · show Act.put _ (some 69) _ = _
            simp only [Act.put, OpenRow.s1, OpenRow.s2, OpenRow.s3, i64_w, i32_w]
            rfl
          refine one_ (i := 8) (N := some 72) #[true, true, true, true, true, true, true, true, true, true, true, false, false, false] rfl rfl (by kernel_rfl) (by decide) (fun K hK => ?_)
          refine goes_ Try.func51 (by kernel_rfl) rfl #[.agg (arr .i64 (fe cf)), .agg (arr .i64 (fe cg))] (by rfl) rfl rfl (by simp only [List.map_toArray, List.map_cons, List.map_nil] <;> rfl) ?_
          with_reducible refine ((MM.out _ _ _ _ _ Hcf.out Hcg.out Mcf.out Mcg.out).c).mono ?_
          rintro e w3 ⟨x3, hx3, mx3, rfl, hb⟩
          refine ⟨_, rfl, ?_⟩
          have U3 := Aside0.mk (U2.out.step hb)
          have LE3 := Aside0.mk (blk_below LE2.out hb)
          have LF3 := Aside0.mk (blk_below LF2.out hb)
          have LG3 := Aside0.mk (blk_below LG2.out hb)
          have LH3 := Aside0.mk (blk_below LH2.out hb)
          have HX3 := Aside0.mk hx3
          have MX3 := Aside0.mk mx3
          clear hb hx3 mx3
          refine hK.out _ _ ⟨U3.out, LE3.out, LF3.out, LG3.out, LH3.out⟩ (fun hHeld => ?_)
          clear hK K
          refine norm_ (a' := ?_) ?_ ?_
          rotate_left
          · show Act.put _ (some 72) _ = _
            simp only [Act.put, OpenRow.s1, OpenRow.s2, OpenRow.s3, i64_w, i32_w]
            rfl
          refine one_ (i := 11) (N := some 75) #[true, true, true, true, true, true, true, true, true, true, true, true, false, false] rfl rfl (by kernel_rfl) (by decide) (fun K hK => ?_)
          refine goes_ Try.func51 (by kernel_rfl) rfl #[.agg (arr .i64 (fe ce)), .agg (arr .i64 (fe ch))] (by rfl) rfl rfl (by simp only [List.map_toArray, List.map_cons, List.map_nil] <;> rfl) ?_
          with_reducible refine ((MM.out _ _ _ _ _ Hce.out Hch.out Mce.out Mch.out).c).mono ?_
          rintro e w3 ⟨x4, hx4, mx4, rfl, hb⟩
          refine ⟨_, rfl, ?_⟩
          have U4 := Aside0.mk (U3.out.step hb)
          have LE4 := Aside0.mk (blk_below LE3.out hb)
          have LF4 := Aside0.mk (blk_below LF3.out hb)
          have LG4 := Aside0.mk (blk_below LG3.out hb)
          have LH4 := Aside0.mk (blk_below LH3.out hb)
          have HX4 := Aside0.mk hx4
          have MX4 := Aside0.mk mx4
          clear hb hx4 mx4
          refine hK.out _ _ ⟨U4.out, LE4.out, LF4.out, LG4.out, LH4.out⟩ (fun hHeld => ?_)
          clear hK K
          refine norm_ (a' := ?_) ?_ ?_
          rotate_left
          · show Act.put _ (some 75) _ = _
            simp only [Act.put, OpenRow.s1, OpenRow.s2, OpenRow.s3, i64_w, i32_w]
            rfl
          refine pure_ (i := 12) (N := some 76) (v := ?_) (a' := ?_) #[true, true, true, true, true, true, true, true, true, true, true, true, true, false] rfl rfl (by kernel_rfl) (fun _ _ _ h => h) (Or.inl ⟨by rfl, ?_⟩) ?_ ?_
          rotate_left
          · intro w'
            refine (run_bd rfl _ (by simp only [List.map_toArray, List.map_cons, List.map_nil] <;> rfl) (build_fe x1 x2 x3 x4 _)).trans ?_; with_reducible rfl
          rotate_left
          · simp only [Act.put, OpenRow.s1, OpenRow.s2, OpenRow.s3, i64_w, i32_w]; rfl
          refine last_ (i := 13) (N := none) #[true, true, true, true, true, true, true, true, true, true, true, true, true, true] rfl rfl (by kernel_rfl) (by decide) (fun K hK => ?_)
          refine st_step (by rfl) rfl 43 (.tmp 6) (.tmp 76) rfl (w.heap.size + 3) (xs := feP x1 x2 x3 x4) rfl rfl (U4.out.blk 3 rfl) (m := 64) (by kernel_rfl) (feP_length _ _ _ _) (by rw [feP_length]; rfl) ?_
          intro w6 h1 h2 h3 h4
          have H1 := Aside0.mk h1
          have UE := Aside0.mk (U4.out.row 3 rfl h1 h2 h3)
          clear h1 h2 h3 h4
          refine hK.out _ _ ?_
          clear hK K
          refine done_ (by kernel_rfl) ?_
          (repeat go_step)
          exact bodyPost_ret (results_cell_row Try.results20 _ _ (w.heap.size + 3) 43 _ (0, 0) _ rfl H1.out Try.underlying43 rfl (by rw [arr_size, feP_length]; kernel_rfl)) rfl ⟨⟨x1, x2, x3, x4⟩, ⟨HX1.out, HX2.out, HX3.out, HX4.out⟩, by show (⟨x1 % FldB.PP, x2 % FldB.PP, x3 % FldB.PP, x4 % FldB.PP⟩ : Q4) = _; rw [MX1.out, MX2.out, MX3.out, MX4.out], rfl, UE.out.below⟩
def MulIs (p R : Q4) (m : Nat) : Prop := ∀ X, Is (md p) X → Is (md R) (Edw.Pt.mul cu X m)
theorem md_lt (R : Q4) : (md R).x ≤ FldB.PP := Nat.le_of_lt (Nat.mod_lt _ PP_pos)
theorem MulIs.dbl {p R R2 : Q4} {m d2 : Nat} (h : MulIs p R m) (hd : d2 = fa EdP.dN EdP.dN) (e : md R2 = FldOpsS.addS (md R) (md R) d2) : MulIs p R2 (2 * m) := by
  intro X hX
  rw [e, ← Edw.Pt.dbl]
  exact is_addS hd ⟨md_lt R, md_lt R⟩ (h X hX) (h X hX)
theorem MulIs.one {p R R2 : Q4} {m d2 : Nat} (h : MulIs p R m) (hd : d2 = fa EdP.dN EdP.dN) (e : md R2 = FldOpsS.addS (md R) (md p) d2) : MulIs p R2 (m + 1) := by
  intro X hX
  rw [e]
  exact is_addS hd ⟨md_lt R, md_lt p⟩ (h X hX) hX
theorem MulIs.zero (p : Q4) : MulIs p ⟨0, 1, 1, 0⟩ 0 := fun X _ => is_zero
theorem bit8 (b j : Nat) (hb : b < 256) (hj : j < 8) : bits .and .u8 ((b : Int) / 2 ^ j) 1 = ((b / 2 ^ j % 2 : Nat) : Int) := by
  have h : ∀ b : Nat, b < 256 → ∀ j : Nat, j < 8 → bits .and .u8 ((b : Int) / 2 ^ j) 1 = ((b / 2 ^ j % 2 : Nat) : Int) := by decide +kernel
  exact h b hb j hj
theorem bval_step (l : List Int) (ho : Ok 256 l) (q : Nat) (hq : q < l.length) : bval (l.drop q) = bval (l.drop (q + 1)) * 256 + (l.getD q 0).toNat := by
  have hd : l.drop q = l.getD q 0 :: l.drop (q + 1) := by
    rw [List.drop_eq_getElem_cons hq, List.getD_eq_getElem?_getD, List.getElem?_eq_getElem hq]; rfl
  have h0 := ho (l.getD q 0) (by rw [List.getD_eq_getElem?_getD, List.getElem?_eq_getElem hq]; exact List.getElem_mem _)
  have h1 := lval_nonneg 256 (l.drop (q + 1)) (fun x hx => ho x (List.mem_of_mem_drop hx))
  have h2 := h0.1
  rw [hd]
  unfold bval
  rw [lval]
  have e : ((256 : Nat) : Int) = 256 := rfl
  rw [e]
  generalize lval 256 (l.drop (q + 1)) = v at *
  generalize l.getD q 0 = b at *
  omega
theorem bit_step (m0 b t : Nat) (ht : t < 8) : 2 * (m0 * 2 ^ t + b / 2 ^ (8 - t)) + b / 2 ^ (7 - t) % 2 = m0 * 2 ^ (t + 1) + b / 2 ^ (8 - (t + 1)) := by
  rw [show 8 - (t + 1) = 7 - t by omega, show 8 - t = (7 - t) + 1 by omega, Nat.pow_succ 2 (7 - t), ← Nat.div_div_eq_div_mul, Nat.pow_succ]
  generalize b / 2 ^ (7 - t) = u
  rw [Nat.mul_comm (2 ^ t) 2, ← Nat.mul_assoc, Nat.mul_comm m0 2, Nat.mul_assoc, Nat.mul_add]
  generalize m0 * 2 ^ t = v
  omega
set_option maxHeartbeats 4000000 in
set_option maxRecDepth 100000 in
theorem spec_l05Times.calls (A0 : Option Addr) (c0 : Nat) (l : List Int) (p : Q4) (w : World) (hr0 : Kd.C (Kd.int .u8) w A0 l.length l) (hl : l.length < 1000000) (ho : okB l = true) (hp : LtB p) :
    Calls Try.prog 34 #[.slice A0 l.length c0, .agg (arr .i64 (feP p.x p.y p.z p.t))] w fun e w' => ∃ R : Q4, LtB R ∧ MulIs p R (bval l) ∧ e = .returned (.agg (arr .i64 (feP R.x R.y R.z R.t))) ∧ Below w.heap.size w w' := by
  have OK := Aside0.mk (okB_ok l ho)
  have HP := Aside0.mk hp
  have HD := Aside0.mk (fun W => spec_l05D.calls W)
  have HA := Aside0.mk (fun x y W (hx : x < BB) (hy : y < BB) => spec_l05Add.calls x y W hx hy)
  have HN := Aside0.mk (fun W => spec_l05None.calls W)
  have HPL := Aside0.mk (fun P Q d2 W (hP : LtB P) (hQ : LtB Q) (hd : d2 < BB) => spec_l05Plus.calls P Q d2 W hP hQ hd)
  have CC := Aside0.mk (fun W (hW : Below w.heap.size w W) => Kd.C_below hr0 hW)
  have LB0 := Aside0.mk (show LtB ⟨0, 1, 1, 0⟩ from ⟨by decide, by decide, by decide, by decide⟩)
  have M0 := Aside0.mk (MulIs.zero p)
  clear hr0 ho hp
  have S := Aside0.mk (((St.start w).push rfl 43 .i64 (feP p.x p.y p.z p.t)).push (World.size_alloc ..) 43 .i64 zP)
  have T1 := Aside0.mk True.intro
  obtain ⟨n, hn⟩ : ∃ n, n = l.length := ⟨_, rfl⟩
  have HNL := Aside0.mk hn
  rw [← hn] at hl ⊢
  have hw : wrap64 ((n : Int) - 1) = (n : Int) - 1 := by unfold wrap64; omega
  clear hn
  go_enter Try.func34, Try.ntmps34
  go_wp2_with (first
    | (clear T1; (with_reducible refine (HD.out _).mono ?_); rintro e w1 ⟨d1, hd, hdm, rfl, hb⟩; have Hd1 := Aside0.mk hd; have Md1 := Aside0.mk hdm; have S := Aside0.mk (S.out.step hb); clear hb hd hdm)
    | ((with_reducible refine (HD.out _).mono ?_); rintro e w2 ⟨d2, hd, hdm, rfl, hb⟩; have Hd2 := Aside0.mk hd; have Md2 := Aside0.mk hdm; have S := Aside0.mk (S.out.step hb); clear hb hd hdm)
    | ((with_reducible refine (HA.out _ _ _ Hd1.out Hd2.out).mono ?_); rintro e w3 ⟨dd, hd, hdm, rfl, hb⟩; have Hdd := Aside0.mk hd; have Mdd := Aside0.mk (show dd % FldB.PP = fa EdP.dN EdP.dN by rw [add_res d1 d2 dd hdm, Md1.out, Md2.out]; decide +kernel); have S := Aside0.mk (S.out.step hb); clear hb hd hdm)
    | (refine st_arr rfl 41 (.tmp 5) (.tmp 11) rfl w3.heap.size (xs := fe dd) rfl rfl (blk_new w3 (.cells (arr .i64 z16) 41)) (m := 16) (by kernel_rfl) (fe_length _) (by rw [fe_length]; rfl) ?_; intro w4 h1 h2 h4 h3; have D := Aside0.mk h1; have E5 := Aside0.mk S.out.size; have S := Aside0.mk (St.other (S.out.alloc (.cells (arr .i64 z16) 41)) h2 h3 S.out.size); clear h1 h2 h3 h4)
    | ((with_reducible refine (HN.out _).mono ?_); rintro e w5 ⟨rfl, hb⟩; have D := Aside0.mk (blk_below D.out hb); have S := Aside0.mk (S.out.step hb); clear hb)
    | (refine st_arr rfl 43 (.tmp 6) (.tmp 12) rfl w5.heap.size (xs := feP 0 1 1 0) rfl rfl (blk_new w5 (.cells (arr .i64 zP) 43)) (m := 64) (by kernel_rfl) (feP_length _ _ _ _) (by rw [feP_length]; rfl) ?_; intro w6 h1 h2 h4 h3; have G := Aside0.mk h1; have NE := Aside0.mk (show w3.heap.size ≠ w5.heap.size from ne_of_blk D.out); have D := Aside0.mk ((h2 _ (ne_of_blk D.out)).trans (blk_alloc D.out _)); have E6 := Aside0.mk S.out.size; have S := Aside0.mk (St.other (S.out.alloc (.cells (arr .i64 zP) 43)) h2 h3 S.out.size); clear h1 h2 h3 h4))
  obtain ⟨g5, hg5⟩ : ∃ g, g = w3.heap.size := ⟨_, rfl⟩
  obtain ⟨g6, hg6⟩ : ∃ g, g = w5.heap.size := ⟨_, rfl⟩
  rw [← hg5] at D NE E5
  rw [← hg6] at G NE E6
  rw [← hg5, ← hg6]
  clear hg5 hg6
  go_loopg [7, 8] (n + 1) (fun gg s7 _ wr => ∃ (q : Nat) (R : Q4), q ≤ n ∧ q ≤ gg ∧ s7 = .int .i64 ((q : Int) - 1) ∧ Aside0 (LtB R) ∧ Aside0 (MulIs p R (bval (l.drop q))) ∧ Aside0 (St w [⟨43, .i64, feP p.x p.y p.z p.t⟩, ⟨43, .i64, zP⟩] wr) ∧ Aside0 (wr.heap[g6]? = some (.cells (arr .i64 (feP R.x R.y R.z R.t)) 43 (0, 0))) ∧ Aside0 (wr.heap[g5]? = some (.cells (arr .i64 (fe dd)) 41 (0, 0))))
  case atStart => exact ⟨n, ⟨0, 1, 1, 0⟩, by omega, by omega, rfl, LB0, ⟨by rw [List.drop_of_length_le (by rw [HNL.out]; exact Nat.le_refl _)]; exact M0.out⟩, S, G, D⟩
  case round =>
    clear S G D hw
    obtain ⟨q, R, hq, hg, rfl, LR, MR, S, G, D⟩ := hrel
    rcases Nat.eq_zero_or_pos q with h0 | h0
    · subst h0
      rw [List.drop_zero] at MR
      have e0 : ((0 : Nat) : Int) - 1 = -1 := rfl
      rw [e0]
      go_wp2_with (first
        | ((with_reducible refine gate_dst (N := 41) rfl ?_); refine ld_any rfl 43 (.tmp 6) rfl g6 rfl G.out Try.underlying43 rfl (m := 64) (by kernel_rfl) (feP_length _ _ _ _) ?_)
        | (refine st_arr rfl 43 (.tmp 4) (.tmp 41) rfl (w.heap.size + 1) (xs := feP R.x R.y R.z R.t) rfl rfl (S.out.blk 1 rfl) (m := 64) (by kernel_rfl) (feP_length _ _ _ _) (by rw [feP_length]; rfl) ?_; intro w' h1 h2 h4 h3; have H1 := Aside0.mk h1; have S3 := Aside0.mk (S.out.row 1 rfl h1 h2 h3); clear h1 h2 h3 h4))
      exact bodyPost_ret (results_cell_row Try.results34 _ _ (w.heap.size + 1) 43 _ (0, 0) _ rfl H1.out Try.underlying43 rfl (by rw [arr_size, feP_length]; kernel_rfl)) rfl ⟨R, LR.out, MR.out, rfl, S3.out.below⟩
    · obtain ⟨i, rfl⟩ : ∃ i, q = i + 1 := ⟨q - 1, by omega⟩
      have e0 : (((i + 1 : Nat)) : Int) - 1 = (i : Int) := by omega
      rw [e0]
      have hi0 : (i : Int) ≥ 0 := by omega
      have hin : i < n := by omega
      have hini : (i : Int) < (n : Int) := by omega
      obtain ⟨b, hb⟩ : ∃ b, b = (l.getD i 0).toNat := ⟨_, rfl⟩
      have hr := OK.out (l.getD i 0) (by rw [List.getD_eq_getElem?_getD, List.getElem?_eq_getElem (by rw [← HNL.out]; exact hin)]; exact List.getElem_mem _)
      have hbi : l.getD i 0 = (b : Int) := by have := hr.1; omega
      have hb256 : b < 256 := by have h_ := hr.2; rw [hbi] at h_; omega
      have EB := Aside0.mk (show bval (l.drop i) = bval (l.drop (i + 1)) * 256 + b by rw [hb]; exact bval_step l OK.out i (by rw [← HNL.out]; exact hin))
      obtain ⟨adA, eA, _⟩ := Kd.at_int (CC.out w (Below.refl _ _)) (i : Int) (by omega) (by rw [← HNL.out]; omega)
      subst eA
      have CL := Aside0.mk (fun W (hW : Below w.heap.size w W) => (show W.cell? (adA.add i) = some (.int .u8 (b : Int)) from by
        obtain ⟨ad, e2, h2⟩ := Kd.at_int (CC.out W hW) (i : Int) (by omega) (by rw [← HNL.out]; omega)
        cases e2
        rw [← hbi]
        simpa [rd] using h2))
      have HB8 := Aside0.mk (fun j (hj : j < 8) => bit8 b j hb256 hj)
      clear hb hr hbi
      generalize bval (l.drop (i + 1)) = m0 at *
      (repeat go_step)
      go_loopg [8] 9 (fun gg s8 wr => ∃ (t : Nat) (R : Q4), t ≤ 8 ∧ 8 - t ≤ gg ∧ s8 = .int .i64 (7 - (t : Int)) ∧ Aside0 (LtB R) ∧ Aside0 (MulIs p R (m0 * 2 ^ t + b / 2 ^ (8 - t))) ∧ Aside0 (St w [⟨43, .i64, feP p.x p.y p.z p.t⟩, ⟨43, .i64, zP⟩] wr) ∧ Aside0 (wr.heap[g6]? = some (.cells (arr .i64 (feP R.x R.y R.z R.t)) 43 (0, 0))) ∧ Aside0 (wr.heap[g5]? = some (.cells (arr .i64 (fe dd)) 41 (0, 0))))
      case atStart => exact ⟨0, R, by omega, by omega, rfl, LR, ⟨by rw [Nat.pow_zero, Nat.mul_one, show b / 2 ^ (8 - 0) = 0 from Nat.div_eq_of_lt hb256, Nat.add_zero]; exact MR.out⟩, S, G, D⟩
      case round =>
        clear LR MR S G D R
        obtain ⟨t, R, ht, hg2, rfl, LR, MR, S, G, D⟩ := hrel
        by_cases hlt : t < 8
        · obtain ⟨j, hj⟩ : ∃ j : Nat, j = 7 - t := ⟨_, rfl⟩
          have e1 : (7 : Int) - (t : Int) = (j : Int) := by omega
          rw [e1]
          have hj0 : (j : Int) ≥ 0 := by omega
          have hj8 : j < 8 := by omega
          have hj8i : (j : Int) < 64 := by omega
          have wj : IntKind.u64.wrap (j : Int) = (j : Int) := by rw [IntKind.wrap_u64]; omega
          have m8 : min j 8 = j := by omega
          have hbit := HB8.out j hj8
          have EJ := Aside0.mk (show (j : Int) - 1 = 7 - ((t + 1 : Nat) : Int) by omega)
          have BST := Aside0.mk (bit_step m0 b t hlt)
          rw [← hj] at BST
          generalize b / 2 ^ (8 - t) = bt at *
          obtain ⟨bv, hbv⟩ : ∃ bv, bv = b / 2 ^ j % 2 := ⟨_, rfl⟩
          rw [← hbv] at hbit BST
          have hb2 : bv = 0 ∨ bv = 1 := by omega
          clear hbv hj e1
          rcases hb2 with rfl | rfl
          · have hbit0 : bits .and .u8 ((b : Int) / 2 ^ j) 1 = 0 := hbit
            clear hbit
            go_wp2_with (first
              | ((with_reducible refine gate_dst (N := 24) rfl ?_); refine ld_any rfl 43 (.tmp 6) rfl g6 rfl G.out Try.underlying43 rfl (m := 64) (by kernel_rfl) (feP_length _ _ _ _) ?_)
              | ((with_reducible refine gate_dst (N := 25) rfl ?_); refine ld_any rfl 43 (.tmp 6) rfl g6 rfl G.out Try.underlying43 rfl (m := 64) (by kernel_rfl) (feP_length _ _ _ _) ?_)
              | ((with_reducible refine gate_dst (N := 26) rfl ?_); refine ld_arr rfl 41 (.tmp 5) rfl g5 rfl D.out Try.underlying41 (m := 16) (by kernel_rfl) (fe_length _) ?_)
              | ((with_reducible refine (HPL.out _ _ _ _ LR.out LR.out Hdd.out).mono ?_); rintro e w7 ⟨R2, hl_, hm_, rfl, hb⟩; have LR2 := Aside0.mk hl_; have QR2 := Aside0.mk hm_; have S := Aside0.mk (S.out.step hb); have G := Aside0.mk (blk_below G.out hb); have D := Aside0.mk (blk_below D.out hb); clear hb hl_ hm_)
              | (refine st_arr rfl 43 (.tmp 6) (.tmp 27) rfl g6 (xs := feP R2.x R2.y R2.z R2.t) rfl rfl G.out (m := 64) (by kernel_rfl) (feP_length _ _ _ _) (by rw [feP_length, feP_length]) ?_; intro w' h1 h2 h4 h3; have G := Aside0.mk h1; have D := Aside0.mk ((h2 _ NE.out).trans D.out); have S := Aside0.mk (St.other S.out h2 h3 E6.out); have hcl := CL.out _ S.out.below; clear h1 h2 h3 h4))
            go_roundg (8 - (t + 1))
            case measure => omega
            case rel => exact ⟨t + 1, R2, by omega, Nat.le_refl _, by rw [← EJ.out], LR2, ⟨by rw [← BST.out, Nat.add_zero]; exact MR.out.dbl Mdd.out QR2.out⟩, S, G, D⟩
          · have hbit0 : bits .and .u8 ((b : Int) / 2 ^ j) 1 = 1 := hbit
            clear hbit
            go_wp2_with (first
              | ((with_reducible refine gate_dst (N := 24) rfl ?_); refine ld_any rfl 43 (.tmp 6) rfl g6 rfl G.out Try.underlying43 rfl (m := 64) (by kernel_rfl) (feP_length _ _ _ _) ?_)
              | ((with_reducible refine gate_dst (N := 25) rfl ?_); refine ld_any rfl 43 (.tmp 6) rfl g6 rfl G.out Try.underlying43 rfl (m := 64) (by kernel_rfl) (feP_length _ _ _ _) ?_)
              | ((with_reducible refine gate_dst (N := 26) rfl ?_); refine ld_arr rfl 41 (.tmp 5) rfl g5 rfl D.out Try.underlying41 (m := 16) (by kernel_rfl) (fe_length _) ?_)
              | ((with_reducible refine (HPL.out _ _ _ _ LR.out LR.out Hdd.out).mono ?_); rintro e w7 ⟨R2, hl_, hm_, rfl, hb⟩; have LR2 := Aside0.mk hl_; have QR2 := Aside0.mk hm_; have S := Aside0.mk (S.out.step hb); have G := Aside0.mk (blk_below G.out hb); have D := Aside0.mk (blk_below D.out hb); clear hb hl_ hm_)
              | (refine st_arr rfl 43 (.tmp 6) (.tmp 27) rfl g6 (xs := feP R2.x R2.y R2.z R2.t) rfl rfl G.out (m := 64) (by kernel_rfl) (feP_length _ _ _ _) (by rw [feP_length, feP_length]) ?_; intro w' h1 h2 h4 h3; have G := Aside0.mk h1; have D := Aside0.mk ((h2 _ NE.out).trans D.out); have S := Aside0.mk (St.other S.out h2 h3 E6.out); have hcl := CL.out _ S.out.below; clear h1 h2 h3 h4)
              | ((with_reducible refine gate_dst (N := 37) rfl ?_); refine ld_any rfl 43 (.tmp 6) rfl g6 rfl G.out Try.underlying43 rfl (m := 64) (by kernel_rfl) (feP_length _ _ _ _) ?_)
              | ((with_reducible refine gate_dst (N := 38) rfl ?_); refine ld_any rfl 43 (.tmp 3) rfl w.heap.size rfl (S.out.blk 0 rfl) Try.underlying43 rfl (m := 64) (by kernel_rfl) (feP_length _ _ _ _) ?_)
              | ((with_reducible refine gate_dst (N := 39) rfl ?_); refine ld_arr rfl 41 (.tmp 5) rfl g5 rfl D.out Try.underlying41 (m := 16) (by kernel_rfl) (fe_length _) ?_)
              | ((with_reducible refine (HPL.out _ _ _ _ LR2.out HP.out Hdd.out).mono ?_); rintro e w7 ⟨R3, hl_, hm_, rfl, hb⟩; have LR3 := Aside0.mk hl_; have QR3 := Aside0.mk hm_; have S := Aside0.mk (S.out.step hb); have G := Aside0.mk (blk_below G.out hb); have D := Aside0.mk (blk_below D.out hb); clear hb hl_ hm_)
              | (refine st_arr rfl 43 (.tmp 6) (.tmp 40) rfl g6 (xs := feP R3.x R3.y R3.z R3.t) rfl rfl G.out (m := 64) (by kernel_rfl) (feP_length _ _ _ _) (by rw [feP_length, feP_length]) ?_; intro w' h1 h2 h4 h3; have G := Aside0.mk h1; have D := Aside0.mk ((h2 _ NE.out).trans D.out); have S := Aside0.mk (St.other S.out h2 h3 E6.out); have hcl := CL.out _ S.out.below; clear h1 h2 h3 h4))
            go_roundg (8 - (t + 1))
            case measure => omega
            case rel => exact ⟨t + 1, R3, by omega, Nat.le_refl _, by rw [← EJ.out], LR3, ⟨by rw [← BST.out]; exact (MR.out.dbl Mdd.out QR2.out).one Mdd.out QR3.out⟩, S, G, D⟩
        · obtain rfl : t = 8 := by omega
          have e1 : (7 : Int) - ((8 : Nat) : Int) = -1 := rfl
          rw [e1]
          have MR2 := Aside0.mk (show MulIs p R (bval (l.drop i)) by rw [EB.out]; have h_ := MR.out; rwa [Nat.sub_self, Nat.pow_zero, Nat.div_one, show (2 : Nat) ^ 8 = 256 from rfl] at h_)
          clear hlt ht hg2
          go_wp2
          go_roundg i
          case measure => omega
          case rel => exact ⟨i, R, by omega, Nat.le_refl _, by go_num, LR, MR2, S, G, D⟩
theorem point1_ok (A0 : Option Addr) (c0 : Nat) (l : List Int) (w : World) (hr0 : Kd.C (Kd.int .u8) w A0 l.length l) (hc0 : l.length ≤ c0) (ho : okB l = true) (h : okP l = true) :
    Calls Try.prog 18 #[.slice A0 l.length c0] w fun e w' => ∃ P : Q4, LtB P ∧ md P = q4 l ∧ e = .returned (.tuple #[.agg (arr .i64 (feP P.x P.y P.z P.t)), .bool true]) ∧ Below w.heap.size w w' :=
  (spec_l05Point1.calls A0 c0 l w hr0 hc0 ho).mono fun e w' ⟨hp, hb⟩ => by
    obtain ⟨cx, ct, h1, h2, h3, h4⟩ := hp
    rw [if_pos h, h] at h4
    obtain ⟨h5, h6⟩ := h3 h
    have hy := okP_y l h
    refine ⟨⟨cx, pYv l, 1, ct⟩, ⟨h1, Nat.lt_trans hy (by decide), show 1 < BB by decide, h2⟩, ?_, h4, hb⟩
    show (⟨cx % FldB.PP, pYv l % FldB.PP, 1 % FldB.PP, ct % FldB.PP⟩ : Q4) = ⟨pXv l, pYv l, 1, pXv l * pYv l % FldB.PP⟩
    rw [h5, h6, Nat.mod_eq_of_lt hy]
    rfl
theorem below_twoP {B B2 : Nat} {w0 W W2 : World} (h : Below B w0 W) (k : Below B2 W W2) (hle : B ≤ B2) : Below B w0 W2 :=
  ⟨k.os.trans h.os, k.tape.trans h.tape, k.output.trans h.output, Nat.le_trans h.size k.size, fun i hi => (k.block i (by omega)).trans (h.block i hi)⟩
def ptF (code : List Int) : List Int := if byN code 0 % 5 = 0 then encP (Pt.zero cu) else if byN code 0 % 5 = 1 then baseL else encP (Pt.mul cu baseP (bval [byN code 1, byN code 2]))
theorem base_r : spec_l05Base.f = some baseL := by
  have h : 4 * (5 ^ (FldB.PP - 2) % FldB.PP) % FldB.PP = EdP.bY := by
    rw [← Prime.pm_eq FldB.PP 255 5 (FldB.PP - 2) (by decide)]
    decide +kernel
  unfold spec_l05Base.f baseL
  rw [h]
theorem base_len : baseL.length = 32 := limbs_length _ _ _
theorem base_okB : okB baseL = true := by decide +kernel
theorem none_bytes : enc4 (md ⟨0, 1, 1, 0⟩) = encP (Pt.zero cu) := enc4_is (Q := md ⟨0, 1, 1, 0⟩) is_zero
theorem times_bytes {P R : Q4} {m : Nat} (h : md P = q4 baseL) (k : MulIs P R m) : enc4 (md R) = encP (Pt.mul cu baseP m) := by
  refine enc4_is (k baseP ?_)
  rw [h, ← base_pt]
  exact is_q4 baseL base_ok
set_option maxHeartbeats 4000000 in
set_option maxRecDepth 100000 in
theorem l00point.calls (g : Nat) (A : Option Addr) (c : Nat) (code : List Int) (w0 w : World) (hg : w.heap[g]? = some (.cells #[.slice A code.length c, .int .i64 (0), .int .i64 (sdN code (0))] 58 (0, 0)))
    (hC : Kd.C (Kd.int .u8) w0 A code.length code) (hB : Below w0.heap.size w0 w) (hgb : w0.heap.size ≤ g) (ho : Ok 256 code) (hl : code.length < 1099511627776) :
    Calls Try.prog 13 #[.pointer (some ⟨g, 0, none⟩)] w fun e w' => ∃ v, e = .returned v ∧ Kd.R (Kd.int .u8) 5 w' w0.heap.size (fun _ => True) v (ptF code) ∧ Below w0.heap.size w0 w' := by
  have HN := Aside0.mk (fun k n W (hW : W.heap[g]? = some (.cells #[.slice A code.length c, .int .i64 (((k : Nat) : Int)), .int .i64 (sdN code (k))] 58 (0, 0))) (hb : Below w0.heap.size w0 W) (hk : k < 1000000) (h1 : 2 ≤ n) (h2 : n ≤ 256) => l00next.calls g A c code k n w0 W hW hC hb hgb ho hk hl h1 h2)
  have HG := Aside0.mk hg
  have HB := Aside0.mk hB
  have HGB := Aside0.mk hgb
  have HGL := Aside0.mk (blk_lt hg)
  have HWB := Aside0.mk hB.size
  have RG := Aside0.mk (fun k => byN_range code ho k)
  have r0 := RG.out 0
  obtain ⟨v0, hv0⟩ : ∃ v, v = byN code 0 % 5 := ⟨_, rfl⟩
  have N0 := Aside0.mk (fun W (h1 : W.heap[g]? = some (.cells #[.slice A code.length c, .int .i64 (((0 : Nat) : Int)), .int .i64 (sdN code (0))] 58 (0, 0))) (h2 : Below w0.heap.size w0 W) => (show Calls Try.prog 31 #[.pointer (some ⟨g, 0, none⟩), .int .i64 5] W fun e w' => e = .returned (.int .i64 v0) ∧ w'.heap[g]? = some (.cells #[.slice A code.length c, .int .i64 (((0 + 1 : Nat) : Int)), .int .i64 (sdN code (0 + 1))] 58 (0, 0)) ∧ Ch g W w' from by have h := HN.out 0 5 W h1 h2 (by omega) (by omega) (by omega); rw [← hv0] at h; exact h))
  have EF := Aside0.mk (show ptF code = if v0 = 0 then encP (Pt.zero cu) else if v0 = 1 then baseL else encP (Pt.mul cu baseP (bval [byN code 1, byN code 2])) by rw [hv0]; rfl)
  have hv1 : 0 ≤ v0 := by omega
  have hv5 : v0 < 5 := by omega
  have HNone := Aside0.mk (fun W => spec_l05None.calls W)
  have HBase := Aside0.mk (fun W => spec_l05Base.calls baseL W base_r)
  have HPB := Aside0.mk (fun R W (h : LtB R) => spec_l05PointBytes.calls R W h)
  clear hg hC hB hgb hl hv0 r0
  by_cases h0 : v0 = 0
  · have E0 := Aside0.mk (EF.out.trans (if_pos h0))
    subst h0
    have HP0 := Aside0.mk (fun W => HPB.out ⟨0, 1, 1, 0⟩ W ⟨by decide, by decide, by decide, by decide⟩)
    rw [none_bytes] at HP0
    go_enter Try.func13, Try.ntmps13
    go_wp2_with (first
      | ((with_reducible refine (N0.out _ HG.out HB.out).mono ?_); rintro e w2 ⟨rfl, hG, hch⟩; have B := Aside0.mk (hch.bel _ _ HB.out HGB.out); clear hG hch)
      | ((with_reducible refine (HNone.out _).mono ?_); rintro e w3 ⟨rfl, hb⟩; have B := Aside0.mk (below_step B.out hb); clear hb)
      | ((with_reducible refine (HP0.out _).mono ?_); rintro e w4 ⟨v, rfl, hR, hb⟩; have HR := Aside0.mk (Kd.R_lower hR (below_size B.out)); have B := Aside0.mk (below_step B.out hb); clear hR hb))
    go_ret
    exact ⟨_, rfl, by rw [E0.out]; exact HR.out, B.out⟩
  · by_cases h1 : v0 = 1
    · have E0 := Aside0.mk (EF.out.trans ((if_neg h0).trans (if_pos h1)))
      subst h1
      go_enter Try.func13, Try.ntmps13
      go_wp2_with (first
        | ((with_reducible refine (N0.out _ HG.out HB.out).mono ?_); rintro e w2 ⟨rfl, hG, hch⟩; have B := Aside0.mk (hch.bel _ _ HB.out HGB.out); clear hG hch)
        | ((with_reducible refine (HBase.out _).mono ?_); rintro e w4 ⟨v, rfl, hR, hb⟩; have HR := Aside0.mk (Kd.R_lower hR (below_size B.out)); have B := Aside0.mk (below_step B.out hb); clear hR hb))
      go_ret
      exact ⟨_, rfl, by rw [E0.out]; exact HR.out, B.out⟩
    · have E0 := Aside0.mk (EF.out.trans ((if_neg h0).trans (if_neg h1)))
      have HP1 := Aside0.mk (fun A1 c1 W (hr : Kd.C (Kd.int .u8) W A1 baseL.length baseL) (hc : baseL.length ≤ c1) => point1_ok A1 c1 baseL W hr hc base_okB base_ok)
      have BLn := Aside0.mk base_len
      obtain ⟨b1, hb1⟩ : ∃ b, b = byN code 1 := ⟨_, rfl⟩
      obtain ⟨b2, hb2⟩ : ∃ b, b = byN code 2 := ⟨_, rfl⟩
      have rb1 := RG.out 1
      have rb2 := RG.out 2
      have N1 := Aside0.mk (fun W (h1 : W.heap[g]? = some (.cells #[.slice A code.length c, .int .i64 (((0 + 1 : Nat) : Int)), .int .i64 (sdN code (0 + 1))] 58 (0, 0))) (h2 : Below w0.heap.size w0 W) => (show Calls Try.prog 31 #[.pointer (some ⟨g, 0, none⟩), .int .i64 256] W fun e w' => e = .returned (.int .i64 b1) ∧ w'.heap[g]? = some (.cells #[.slice A code.length c, .int .i64 (((1 + 1 : Nat) : Int)), .int .i64 (sdN code (1 + 1))] 58 (0, 0)) ∧ Ch g W w' from by have h := HN.out 1 256 W h1 h2 (by omega) (by omega) (by omega); rw [show byN code 1 % 256 = b1 from by omega] at h; exact h))
      have N2 := Aside0.mk (fun W (h1 : W.heap[g]? = some (.cells #[.slice A code.length c, .int .i64 (((1 + 1 : Nat) : Int)), .int .i64 (sdN code (1 + 1))] 58 (0, 0))) (h2 : Below w0.heap.size w0 W) => (show Calls Try.prog 31 #[.pointer (some ⟨g, 0, none⟩), .int .i64 256] W fun e w' => e = .returned (.int .i64 b2) ∧ w'.heap[g]? = some (.cells #[.slice A code.length c, .int .i64 (((2 + 1 : Nat) : Int)), .int .i64 (sdN code (2 + 1))] 58 (0, 0)) ∧ Ch g W w' from by have h := HN.out 2 256 W h1 h2 (by omega) (by omega) (by omega); rw [show byN code 2 % 256 = b2 from by omega] at h; exact h))
      rw [← hb1, ← hb2] at E0
      rw [← hb1] at rb1
      rw [← hb2] at rb2
      have b10 := rb1.1
      have b11 := rb1.2
      have b20 := rb2.1
      have b21 := rb2.2
      have w81 : IntKind.u8.wrap b1 = b1 := by rw [IntKind.wrap_u8]; omega
      have w82 : IntKind.u8.wrap b2 = b2 := by rw [IntKind.wrap_u8]; omega
      have OKB := Aside0.mk (show okB [b1, b2] = true by unfold okB; simp only [List.all_cons, List.all_nil, Bool.and_true, Bool.and_eq_true, decide_eq_true_eq]; exact ⟨rb1, rb2⟩)
      clear hb1 hb2 rb1 rb2 EF
      have TB := Aside0.mk (fun (P R : Q4) (h : md P = q4 baseL) (k : MulIs P R (bval [b1, b2])) => times_bytes h k)
      generalize baseL = bl at *
      have S := Aside0.mk (St.start w)
      go_enter Try.func13, Try.ntmps13
      go_wp2_with (first
        | ((with_reducible refine (N0.out _ HG.out HB.out).mono ?_); rintro e w2 ⟨rfl, hG, hch⟩; have B := Aside0.mk (hch.bel _ _ HB.out HGB.out); have SZ := Aside0.mk (by rw [hch.siz]; exact Nat.le_refl _ : w.heap.size ≤ w2.heap.size); have G := Aside0.mk hG; clear hG hch)
        | ((with_reducible refine (HBase.out _).mono ?_); rintro e w4 ⟨v, rfl, hR, hb⟩; obtain ⟨A1, c1, rfl, hcl, hC⟩ := Kd.R_reads hR; have P1 := Aside0.mk (HP1.out A1 c1 w4 hC hcl); have B := Aside0.mk (below_step B.out hb); have G := Aside0.mk (blk_below G.out hb); have SZ := Aside0.mk (Nat.le_trans SZ.out hb.size); clear hR hb hcl hC)
        | ((with_reducible refine (P1.out).mono ?_); rintro e w5 ⟨P, hP, mP, rfl, hb⟩; have HP := Aside0.mk hP; have MP := Aside0.mk mP; have B := Aside0.mk (below_step B.out hb); have G := Aside0.mk (blk_below G.out hb); have SZ := Aside0.mk (Nat.le_trans SZ.out hb.size); clear hb hP mP)
        | (refine st_arr rfl 43 (.tmp 3) (.tmp 17) rfl w5.heap.size (xs := feP P.x P.y P.z P.t) rfl rfl (blk_new w5 (.cells (arr .i64 zP) 43)) (m := 64) (by kernel_rfl) (feP_length _ _ _ _) (by rw [feP_length]; rfl) ?_; intro w6 h1 h2 h4 h3; have GP := Aside0.mk h1; have NE := Aside0.mk (show w5.heap.size ≠ g from fun e => ne_of_blk G.out e.symm); have G := Aside0.mk ((h2 _ (ne_of_blk G.out)).trans (blk_alloc G.out _)); have B := Aside0.mk (h3 _ _ (below_alloc B.out _) (Nat.le_trans HWB.out SZ.out)); have SZ := Aside0.mk (show w.heap.size ≤ w6.heap.size by rw [h4, World.size_alloc]; have := SZ.out; omega); clear h1 h2 h3 h4))
      obtain ⟨g3, hg3⟩ : ∃ g3, g3 = w5.heap.size := ⟨_, rfl⟩
      rw [← hg3] at GP NE
      rw [← hg3]
      clear hg3
      have HT := Aside0.mk (fun A2 c2 W (hr : Kd.C (Kd.int .u8) W A2 2 [b1, b2]) => spec_l05Times.calls A2 c2 [b1, b2] P W hr (show 2 < 1000000 by decide) OKB.out HP.out)
      have GP := Aside0.mk (blk_drew GP.out)
      have G := Aside0.mk (blk_drew G.out)
      have B := Aside0.mk (below_drew B.out)
      refine start_ (n := 11) (S := fun w' => w'.heap[g3]? = some (.cells (arr .i64 (feP P.x P.y P.z P.t)) 43 (0, 0))) (ds := []) #[false, false, false, false, false, false, false, false, false, false, false] (by kernel_rfl) rfl rfl (GP.out) (fun hHeld => ?_)
      refine pure_ (i := 0) (N := some 19) (v := ?_) (a' := ?_) #[true, false, false, false, false, false, false, false, false, false, false] rfl rfl (by kernel_rfl) (fun _ _ _ h => h) (Or.inl ⟨by rfl, ?_⟩) ?_ ?_
      rotate_left
      · intro w'; go_simp; with_reducible rfl
      rotate_left
      · simp only [Act.put, OpenRow.s1, OpenRow.s2, OpenRow.s3, i64_w, i32_w]; rfl
      refine pure_ (i := 3) (N := some 22) (v := ?_) (a' := ?_) #[true, false, false, true, false, false, false, false, false, false, false] rfl rfl (by kernel_rfl) (fun _ _ _ h => h) (Or.inl ⟨by rfl, ?_⟩) ?_ ?_
      rotate_left
      · intro w'; go_simp; with_reducible rfl
      rotate_left
      · simp only [Act.put, OpenRow.s1, OpenRow.s2, OpenRow.s3, i64_w, i32_w]; rfl
      refine take_ (i := 7) (N := some 26) (v := ?_) (a' := ?_) #[true, false, false, true, false, false, false, true, false, false, false] rfl rfl (by kernel_rfl) (fun _ _ _ h => h) (Or.inl ⟨by rfl, ?_⟩) hHeld ?_ ?_
      rotate_left
      · intro w' s0
        refine (run_any 43 (.tmp 3) (by rfl) g3 (by rfl) s0 Try.underlying43 rfl (m := 64) (by kernel_rfl) (feP_length _ _ _ _)).trans ?_; with_reducible rfl
      rotate_left
      · simp only [Act.put, OpenRow.s1, OpenRow.s2, OpenRow.s3, i64_w, i32_w]; rfl
      refine one_ (i := 1) (N := some 20) #[true, true, false, true, false, false, false, true, false, false, false] rfl rfl (by kernel_rfl) (by decide) (fun K hK => ?_)
      refine goes_ Try.func31 (by kernel_rfl) rfl #[.pointer (some ⟨g, 0, none⟩), .int .i64 256] (by rfl) rfl rfl (by simp only [List.map_toArray, List.map_cons, List.map_nil] <;> rfl) ?_
      with_reducible refine (N1.out _ G.out B.out).mono ?_
      rintro e w3 ⟨rfl, hG, hch⟩
      refine ⟨_, rfl, ?_⟩
      have GP := Aside0.mk ((hch.oth _ NE.out).trans GP.out)
      have B := Aside0.mk (hch.bel _ _ B.out HGB.out)
      have SZ := Aside0.mk (by rw [hch.siz]; exact SZ.out : w.heap.size ≤ w3.heap.size)
      have G := Aside0.mk hG
      clear hG hch
      refine hK.out _ _ (GP.out) (fun hHeld => ?_)
      clear hK K
      refine norm_ (a' := ?_) ?_ ?_
      rotate_left
      · show Act.put _ (some 20) _ = _
        simp only [Act.put, OpenRow.s1, OpenRow.s2, OpenRow.s3, i64_w, i32_w]
        rfl
      refine pure_ (i := 2) (N := some 21) (v := ?_) (a' := ?_) #[true, true, true, true, false, false, false, true, false, false, false] rfl rfl (by kernel_rfl) (fun _ _ _ h => h) (Or.inl ⟨by rfl, ?_⟩) ?_ ?_
      rotate_left
      · intro w'; go_simp; with_reducible rfl
      rotate_left
      · simp only [Act.put, OpenRow.s1, OpenRow.s2, OpenRow.s3, i64_w, i32_w]; rfl
      refine one_ (i := 4) (N := some 23) #[true, true, true, true, true, false, false, true, false, false, false] rfl rfl (by kernel_rfl) (by decide) (fun K hK => ?_)
      refine goes_ Try.func31 (by kernel_rfl) rfl #[.pointer (some ⟨g, 0, none⟩), .int .i64 256] (by rfl) rfl rfl (by simp only [List.map_toArray, List.map_cons, List.map_nil] <;> rfl) ?_
      with_reducible refine (N2.out _ G.out B.out).mono ?_
      rintro e w3 ⟨rfl, hG, hch⟩
      refine ⟨_, rfl, ?_⟩
      have GP := Aside0.mk ((hch.oth _ NE.out).trans GP.out)
      have B := Aside0.mk (hch.bel _ _ B.out HGB.out)
      have SZ := Aside0.mk (by rw [hch.siz]; exact SZ.out : w.heap.size ≤ w3.heap.size)
      have G := Aside0.mk hG
      clear hG hch
      refine hK.out _ _ (GP.out) (fun hHeld => ?_)
      clear hK K
      refine norm_ (a' := ?_) ?_ ?_
      rotate_left
      · show Act.put _ (some 23) _ = _
        simp only [Act.put, OpenRow.s1, OpenRow.s2, OpenRow.s3, i64_w, i32_w]
        rfl
      refine pure_ (i := 5) (N := some 24) (v := ?_) (a' := ?_) #[true, true, true, true, true, true, false, true, false, false, false] rfl rfl (by kernel_rfl) (fun _ _ _ h => h) (Or.inl ⟨by rfl, ?_⟩) ?_ ?_
      rotate_left
      · intro w'; go_simp; with_reducible rfl
      rotate_left
      · simp only [Act.put, OpenRow.s1, OpenRow.s2, OpenRow.s3, i64_w, i32_w]; rfl
      refine one_ (i := 6) (N := some 25) #[true, true, true, true, true, true, true, true, false, false, false] rfl rfl (by kernel_rfl) (by decide) (fun K hK => ?_)
      refine Kd.R_lit_step (w0 := _) (Kd.int .u8) _ 5 (by rfl) (N := 25) rfl (xs := [b1, b2]) (inner := [.int .u8 b1, .int .u8 b2]) (ok := fun _ => True) (okp := fun _ => True) ?hr ?hp (fun _ hk => hk) trivial (Below.refl _ _) (Nat.le_refl _) (by simp) ?_
      case hr => first | (go_simp; done) | (go_simp; rfl)
      case hp => exact Kd.reps_scalar _
      intro vn w4 ho hb hg_ hnew_
      obtain ⟨An, cn, en, hcl, hC⟩ := Kd.R_reads ho
      subst en
      have HL := Aside0.mk (show Calls Try.prog 34 #[.slice An 2 cn, .agg (arr .i64 (feP P.x P.y P.z P.t))] w4 _ from HT.out An cn w4 hC)
      have GP := Aside0.mk (blk_below GP.out hb)
      have B := Aside0.mk (below_twoP B.out hb (Nat.le_trans HWB.out SZ.out))
      clear ho hb hg_ hnew_ hcl hC
      refine hK.out _ _ (GP.out) (fun hHeld => ?_)
      clear hK K
      refine norm_ (a' := ?_) ?_ ?_
      rotate_left
      · show Act.put _ (some 25) _ = _
        simp only [Act.put, OpenRow.s1, OpenRow.s2, OpenRow.s3, i64_w, i32_w]
        rfl
      refine one_ (i := 8) (N := some 27) #[true, true, true, true, true, true, true, true, true, false, false] rfl rfl (by kernel_rfl) (by decide) (fun K hK => ?_)
      refine goes_ Try.func34 (by kernel_rfl) rfl #[.slice An 2 cn, .agg (arr .i64 (feP P.x P.y P.z P.t))] (by rfl) rfl rfl (by simp only [List.map_toArray, List.map_cons, List.map_nil] <;> rfl) ?_
      with_reducible refine (HL.out).mono ?_
      rintro e w5 ⟨R, hR1, mR, rfl, hb⟩
      refine ⟨_, rfl, ?_⟩
      have LR := Aside0.mk hR1
      have MR := Aside0.mk mR
      have GP := Aside0.mk (blk_below GP.out hb)
      have B := Aside0.mk (below_step B.out hb)
      clear hR1 mR hb
      refine hK.out _ _ (GP.out) (fun hHeld => ?_)
      clear hK K
      refine norm_ (a' := ?_) ?_ ?_
      rotate_left
      · show Act.put _ (some 27) _ = _
        simp only [Act.put, OpenRow.s1, OpenRow.s2, OpenRow.s3, i64_w, i32_w]
        rfl
      refine one_ (i := 9) (N := some 28) #[true, true, true, true, true, true, true, true, true, true, false] rfl rfl (by kernel_rfl) (by decide) (fun K hK => ?_)
      refine goes_ Try.func19 (by kernel_rfl) rfl #[.agg (arr .i64 (feP R.x R.y R.z R.t))] (by rfl) rfl rfl (by simp only [List.map_toArray, List.map_cons, List.map_nil] <;> rfl) ?_
      with_reducible refine (HPB.out _ _ LR.out).mono ?_
      rintro e w6 ⟨v, rfl, hR, hb⟩
      refine ⟨_, rfl, ?_⟩
      have HR := Aside0.mk (Kd.R_lower hR (below_size B.out))
      have GP := Aside0.mk (blk_below GP.out hb)
      have B := Aside0.mk (below_step B.out hb)
      clear hR hb
      refine hK.out _ _ (GP.out) (fun hHeld => ?_)
      clear hK K
      refine norm_ (a' := ?_) ?_ ?_
      rotate_left
      · show Act.put _ (some 28) _ = _
        simp only [Act.put, OpenRow.s1, OpenRow.s2, OpenRow.s3, i64_w, i32_w]
        rfl
      refine pure_ (i := 10) (N := some 2) (v := ?_) (a' := ?_) #[true, true, true, true, true, true, true, true, true, true, true] rfl rfl (by kernel_rfl) (fun _ _ _ h => h) (Or.inl ⟨by rfl, ?_⟩) ?_ ?_
      rotate_left
      · intro w'; go_simp; with_reducible rfl
      rotate_left
      · simp only [Act.put, OpenRow.s1, OpenRow.s2, OpenRow.s3, i64_w, i32_w]; rfl
      refine done_ (by kernel_rfl) ?_
      (repeat go_step)
      go_ret
      exact ⟨_, rfl, by rw [E0.out, ← TB.out P R MP.out MR.out]; exact HR.out, B.out⟩
def spec_PointOf.f (l0 : List Int) : Option (List Int) := if okB l0 && decide (l0.length < 1099511627776) then some (ptF l0) else none
set_option maxHeartbeats 4000000 in
set_option maxRecDepth 100000 in
theorem spec_PointOf.calls (A0 : Option Addr) (c0 : Nat) (l0 : List Int) (r : List Int) (w : World) (hr0 : Kd.C (Kd.int .u8) w A0 l0.length l0) (hc0 : l0.length ≤ c0) (h : spec_PointOf.f l0 = some r) :
    Calls Try.prog 4 #[.slice A0 l0.length c0] w fun e w' => ∃ v0_ : Value, e = .returned (v0_) ∧ Kd.R (Kd.int .u8) 5 w' w.heap.size (fun _ => True) v0_ r ∧ Below w.heap.size w w' := by
  unfold spec_PointOf.f at h
  by_cases ho : (okB l0 && decide (l0.length < 1099511627776)) = true
  · rw [if_pos ho] at h
    obtain rfl := Option.some.inj h
    clear h
    rw [Bool.and_eq_true, decide_eq_true_iff] at ho
    have HS := Aside0.mk (l00Source.calls A0 c0 l0 w ho.2)
    have HE := Aside0.mk (l00point.calls w.heap.size A0 c0 l0 w (w.alloc (.cells #[.slice A0 l0.length c0, .int .i64 0, .int .i64 (sdN l0 0)] 58)) (blk_new w _) hr0 (below_alloc (Below.refl _ _) _) (Nat.le_refl _) (okB_ok l0 ho.1) ho.2)
    clear hr0 ho
    generalize ptF l0 = ls at *
    generalize sdN l0 0 = s0 at *
    go_enter Try.func4, Try.ntmps4
    go_wp2_with (first
      | ((with_reducible refine (HS.out).mono ?_); rintro e w1 ⟨rfl, rfl⟩)
      | ((with_reducible refine (HE.out).mono ?_); rintro e w2 ⟨v, rfl, hR, hb⟩; have HR := Aside0.mk hR; have HB := Aside0.mk hb; clear hR hb))
    go_ret
    exact ⟨_, rfl, HR.out, HB.out⟩
  · rw [if_neg ho] at h; cases h
def impl_isShort_byte.f (l0 : List Int) : Option (Bool) := some (decide ((l0.length : Int) ≤ 65536))
set_option maxHeartbeats 8000000 in
set_option maxRecDepth 100000 in
theorem impl_isShort_byte.calls (A0 : Option Addr) (c0 : Nat) (l0 : List Int) (r : Bool) (w : World) (hr0 : Kd.C (Kd.int .u8) w A0 l0.length l0) (hc0 : l0.length ≤ c0) (h : impl_isShort_byte.f l0 = some r) :
    Calls Try.prog 14 #[.slice A0 l0.length c0] w fun e w' => e = .returned (.bool r) ∧ Drawn0 w w' := by
  have HR0 := Aside0.mk hr0
  have HC0 := Aside0.mk hc0
  clear hr0 hc0
  have H : (some (decide ((l0.length : Int) ≤ 65536))) = some r := h
  clear h
  obtain rfl := Option.some.inj H
  go_enter Try.func14, Try.ntmps14
  go_wp2
  go_ret
  exact ⟨by first | rfl | (simp; done) | (simp [*]; done), by repeat (first | exact Drawn0.refl _ | apply Drawn0.step)⟩
def slices_Clone_byte_byte.f (l0 : List (Int)) : Option (List (Int)) := if l0.length < 140737488355328 then some l0 else none
set_option maxHeartbeats 4000000 in
set_option maxRecDepth 100000 in
theorem slices_Clone_byte_byte.calls (A0 : Option Addr) (c0 : Nat) (l0 : List (Int)) (r : List (Int)) (w : World) (hr0 : Kd.C (Kd.int .u8) w A0 l0.length l0) (hc0 : l0.length ≤ c0) (h : slices_Clone_byte_byte.f l0 = some r) :
    Calls Try.prog 35 #[.slice A0 l0.length c0] w fun e w' => ∃ v0_ : Value, e = .returned (v0_) ∧ Kd.R (Kd.int .u8) 5 w' w.heap.size (fun _ => True) v0_ r ∧ Below w.heap.size w w' := by
  unfold slices_Clone_byte_byte.f at h
  have hs : l0.length < 140737488355328 := Decidable.byContradiction fun hs => by rw [if_neg hs] at h; cases h
  rw [if_pos hs] at h
  obtain rfl := Option.some.inj h
  clear h
  have q22 : ∀ (W : World) (a : Option Addr) (n c n' c' : Nat), (binOp .eql 22 (.slice a n c) (.slice none n' c')).run Try.prog W = .ok (.bool a.isNone) W := fun W a n c n' c' => Lib.run_eql_slice_nil W _ _ a n c n' c' Try.underlying22
  have infoE : (Try.prog.info? 5).map (fun i => (i.zero, i.size, i.bytes)) = some (some (.int .u8 0), 1, 1) := by kernel_rfl
  have INFO := Aside0.mk infoE
  clear infoE
  have HR0 := Aside0.mk hr0
  have HB := Aside0.mk (Below.refl w.heap.size w)
  have LM := Aside0.mk hs
  cases A0 with
  | none =>
    have hz : l0 = [] := by
      have h2 := hr0.2.2
      cases l0 with
      | nil => rfl
      | cons x xs => obtain ⟨ad, e, _⟩ := h2 (by simp); cases e
    subst hz
    clear hr0 hc0 hs
    go_enter Try.func35, Try.ntmps35
    go_wp2
    go_ret
    exact ⟨_, rfl, Kd.R_nil _ _ _ _ _, HB.out⟩
  | some ad =>
    have Ny := Aside0.mk (show l0 = [] ++ l0 from rfl)
    clear hr0 hs
    go_enter Try.func35, Try.ntmps35
    go_wp2_with (first
      | ((with_reducible refine gate_dst (N := 5) rfl ?_); refine Kd.R_lit (Kd.int .u8) _ 5 ?hg (N := 5) ?hd (xs := []) (inner := []) (ok := fun _ => True) (okp := fun _ => True) ?hr ?hp (fun _ hk => hk) trivial (Below.refl _ _) (Nat.le_refl _) (by simp) ?_; (case hd => rfl); (case hg => rfl); (case hr => first | (go_simp; done) | (go_simp; rfl)); (case hp => exact Reps.none _ _); intro v126 w5 ho6 hb hg_ hnew_; clear hg_ hnew_; have n0_ := Aside0.mk (Kd.R_lower ho6 (below_size HB.out)); have n1_ := Aside0.mk (below_step HB.out hb); clear HB; have HO127 := n0_; have HB := n1_; clear n0_ n1_; clear hb ho6)
      | ((with_reducible refine gate_builtin (b := .append) (xs := #[.tmp 5, .tmp 6]) rfl ?_); at_builtin; refine Kd.R_append_rows (Kd.int .u8) (w0 := w) w.heap.size rfl (.tmp 5) (.tmp 6) 22 5 (.int .u8 0) 1 rfl Try.underlying22 INFO.out rfl (by decide) (by decide) v126 [] l0 _ _ _ (fun _ => True) (fun _ => False) rfl rfl ?aO ?aR (fun _ _ h => h) (fun _ h => h.elim) ?aF ?aB ?aS ?aL ?_; (case aR => exact (Kd.C_below HR0.out HB.out)); (case aB => exact HB.out); (case aF => exact (fun _ _ => trivial)); (case aO => exact HO127.out); (case aS => exact (below_size HB.out)); (case aL => have := LM.out; simp only [List.length_nil, Nat.zero_add]; omega); intro v129 w7 ho hb hg hat; rw [← Ny.out] at ho; have n0_ := Aside0.mk (hb); have n1_ := Aside0.mk (ho); clear HB; clear HO127; have HB := n0_; have HO130 := n1_; clear n0_ n1_; clear ho hb hg hat))
    go_ret
    exact ⟨_, rfl, Kd.R_mono HO130.out (fun _ hk => trivial), HB.out⟩
set_option maxHeartbeats 400000 in
set_option maxRecDepth 100000 in
theorem impl_numberOf.calls (A0 : Option Addr) (c0 : Nat) (l0 : List Int) (w : World) (hr0 : Kd.C (Kd.int .u8) w A0 l0.length l0) (h32 : l0.length ≤ 32) (hb : Ok 256 l0) :
    Calls Try.prog 27 #[.slice A0 l0.length c0] w fun e w' => e = .returned (.agg (arr .u64 (num (bval l0)))) ∧ Below w.heap.size w w' := by
  rw [← nofS_all l0 hb h32]
  have HR := Aside0.mk hr0
  clear hr0 hb
  go_enter Try.func27, Try.ntmps27
  go_wp2
  go_loopg [4, 5, 8] l0.length (fun gg _ _ v8 wr => ∃ k : Nat, k ≤ l0.length ∧ l0.length - k ≤ gg ∧ v8 = .int .i64 k ∧ Aside0 (wr.heap[w.heap.size]? = some (.cells (arr .u64 [0, 0, 0, 0]) 52 (0, 0))) ∧ Aside0 (wr.heap[w.heap.size + 1]? = some (.cells (arr .u64 (nofS l0 k)) 52 (0, 0))) ∧ Aside0 (Below w.heap.size w wr))
  case atStart =>
    have b1 : Below w.heap.size w (w.alloc (.cells (arr .u64 [0, 0, 0, 0]) 52)) := below_alloc (Below.refl _ _) _
    have b2 := below_alloc b1 (.cells (arr .u64 [0, 0, 0, 0]) 52)
    refine ⟨0, by omega, by omega, rfl, ⟨blk_alloc (blk_new _ _) _⟩, ⟨?_⟩, ⟨b2⟩⟩
    have := blk_new (w.alloc (.cells (arr .u64 [0, 0, 0, 0]) 52)) (.cells (arr .u64 [0, 0, 0, 0]) 52)
    rw [World.size_alloc] at this
    exact this
  case round =>
    obtain ⟨k, hk, hg, rfl, B0, B1, HB⟩ := hrel
    by_cases hlt : k < l0.length
    · have hlti : (k : Int) < (l0.length : Int) := by omega
      obtain ⟨ad, e1, hx⟩ := Kd.at_int (Kd.C_below HR.out HB.out) (k : Int) (by omega) (by omega)
      cases e1
      simp only [Int.toNat_natCast] at hx
      obtain ⟨i, hi⟩ : ∃ i : Nat, i = k / 8 := ⟨_, rfl⟩
      obtain ⟨q, hq⟩ : ∃ q : Nat, q = k % 8 := ⟨_, rfl⟩
      obtain ⟨n, hn⟩ : ∃ n : Nat, n = 8 * q := ⟨_, rfl⟩
      have hi1 : (k : Int) / 8 = (i : Int) := by omega
      have hq1 : (k : Int) % 8 = (q : Int) := by omega
      have hq2 : (k : Int).tmod 8 = (q : Int) := by rw [Int.tmod_eq_emod_of_nonneg (by omega)]; omega
      have hn1 : 8 * (q : Int) = (n : Int) := by omega
      have i4 : i < 4 := by omega
      have n56 : min n 64 = n := by omega
      have hc1 := blk_get B1.out i (by rw [nofS_length]; omega)
      have hf1 := blk_frozen B1.out i
      have h4 : (i : Int) < 4 := by omega
      have hn2 : (n : Int) ≤ 56 := by omega
      have HI := Aside0.mk hi
      have HQ := Aside0.mk hq
      have HN := Aside0.mk hn
      clear hi hq hn
      have P1 := Aside0.mk (blk_upd B1.out i (bits .or .u64 ((nofS l0 k).getD i 0) (IntKind.u64.wrap (IntKind.u64.wrap (rd l0 k) * 2 ^ n))))
      have PB := Aside0.mk (below_set (j := i) (v := .int .u64 (bits .or .u64 ((nofS l0 k).getD i 0) (IntKind.u64.wrap (IntKind.u64.wrap (rd l0 k) * 2 ^ n)))) HB.out (show w.heap.size ≤ w.heap.size + 1 by omega))
      have EQ := Aside0.mk (show nofS l0 (k + 1) = (nofS l0 k).set i (bits .or .u64 ((nofS l0 k).getD i 0) (IntKind.u64.wrap (IntKind.u64.wrap (rd l0 k) * 2 ^ n))) from by rw [HN.out, HI.out, HQ.out]; rfl)
      generalize rd l0 (k : Int) = c at *
      generalize (nofS l0 k).getD i 0 = a at *
      go_wp2
      go_region
      go_wp2
      go_roundg (l0.length - (k + 1))
      case measure => omega
      case rel => exact ⟨k + 1, by omega, by omega, by go_num, ⟨blk_drew (blk_far B0.out (by simp) _)⟩, by rw [EQ.out]; exact ⟨blk_drew P1.out⟩, ⟨below_drew PB.out⟩⟩
    · have hkl : k = l0.length := by omega
      have hneg : ¬ (k : Int) < (l0.length : Int) := by omega
      have HK := Aside0.mk hkl
      clear hkl
      go_wp2_with (first
        | ((with_reducible refine gate_dst (N := 26) rfl ?_); refine ld_arr rfl 52 (.tmp 3) rfl (w.heap.size + 1) rfl B1.out Try.underlying52 (m := 4) (by kernel_rfl) (nofS_length _ _) ?_)
        | (refine st_arr rfl 52 (.tmp 2) (.tmp 26) rfl w.heap.size (xs := nofS l0 k) rfl rfl B0.out (m := 4) (by kernel_rfl) (nofS_length _ _) (by rw [nofS_length]; rfl) ?_; intro w' h1 h2 h4 h3; have H1 := Aside0.mk h1; have H3 := Aside0.mk h3; clear h1 h2 h3 h4))
      exact bodyPost_ret (results_cell_row Try.results27 _ _ w.heap.size 52 _ (0, 0) _ rfl H1.out Try.underlying52 rfl (by rw [arr_size, nofS_length]; kernel_rfl)) rfl ⟨by rw [HK.out], H3.out _ _ HB.out (Nat.le_refl _)⟩
theorem less_at (xs ys : List Int) (ox : Ok P64 xs) (oy : Ok P64 ys) (lx : xs.length = 4) (ly : ys.length = 4) (k : Nat) (hk : k < 4) (he : ∀ j, k < j → j < 4 → xs.getD j 0 = ys.getD j 0) (hn : xs.getD k 0 ≠ ys.getD k 0) :
    decide (lval P64 xs < lval P64 ys) = decide (xs.getD k 0 < ys.getD k 0) := by
  match xs, ys, lx, ly with
  | [a0, a1, a2, a3], [b0, b1, b2, b3], _, _ =>
    have h1 := he 1; have h2 := he 2; have h3 := he 3
    have p0 := ox a0 (by simp); have p1 := ox a1 (by simp); have p2 := ox a2 (by simp); have p3 := ox a3 (by simp)
    have q0 := oy b0 (by simp); have q1 := oy b1 (by simp); have q2 := oy b2 (by simp); have q3 := oy b3 (by simp)
    simp only [List.getD_cons_succ, List.getD_cons_zero] at h1 h2 h3
    simp only [P64] at p0 p1 p2 p3 q0 q1 q2 q3
    rw [Bool.eq_iff_iff, decide_eq_true_iff, decide_eq_true_iff]
    simp only [lval, P64]
    have : k = 0 ∨ k = 1 ∨ k = 2 ∨ k = 3 := by omega
    rcases this with rfl | rfl | rfl | rfl <;> simp only [List.getD_cons_succ, List.getD_cons_zero] at hn ⊢ <;> omega
theorem less_eq (xs ys : List Int) (lx : xs.length = 4) (ly : ys.length = 4) (he : ∀ j, j < 4 → xs.getD j 0 = ys.getD j 0) : decide (lval P64 xs < lval P64 ys) = false := by
  match xs, ys, lx, ly with
  | [a0, a1, a2, a3], [b0, b1, b2, b3], _, _ =>
    have h0 := he 0; have h1 := he 1; have h2 := he 2; have h3 := he 3
    simp only [List.getD_cons_succ, List.getD_cons_zero] at h0 h1 h2 h3
    rw [decide_eq_false_iff_not]
    simp only [lval, P64]
    omega
set_option maxHeartbeats 2000000 in
theorem impl_number_less.calls (x y : Nat) (w : World) :
    Calls Try.prog 63 #[.agg (arr .u64 (num x)), .agg (arr .u64 (num y))] w fun e w' => e = .returned (.bool (decide (x % P64 ^ 4 < y % P64 ^ 4))) ∧ Below w.heap.size w w' := by
  have V : decide (x % P64 ^ 4 < y % P64 ^ 4) = decide (lval P64 (num x) < lval P64 (num y)) := by
    rw [num_val, num_val, Bool.eq_iff_iff, decide_eq_true_iff, decide_eq_true_iff]; omega
  rw [V]
  clear V
  obtain ⟨xs, hxs⟩ : ∃ l, l = num x := ⟨_, rfl⟩
  obtain ⟨ys, hys⟩ : ∃ l, l = num y := ⟨_, rfl⟩
  have HX := Aside0.mk (hxs ▸ num_length x)
  have HY := Aside0.mk (hys ▸ num_length y)
  have UX := Aside0.mk (hxs ▸ num_ok x)
  have UY := Aside0.mk (hys ▸ num_ok y)
  rw [← hxs, ← hys]
  clear hxs hys
  go_enter Try.func63, Try.ntmps63
  go_wp2
  go_loopg [4, 5] 4 (fun gg _ v5 wr => ∃ k : Nat, k ≤ 4 ∧ k ≤ gg ∧ v5 = .int .i64 ((k : Int) - 1) ∧ Aside0 (∀ j, k ≤ j → j < 4 → xs.getD j 0 = ys.getD j 0) ∧ Aside0 (wr.heap[w.heap.size]? = some (.cells (arr .u64 xs) 52 (0, 0))) ∧ Aside0 (wr.heap[w.heap.size + 1]? = some (.cells (arr .u64 ys) 52 (0, 0))) ∧ Aside0 (Below w.heap.size w wr))
  case atStart =>
    have b1 : Below w.heap.size w (w.alloc (.cells (arr .u64 xs) 52)) := below_alloc (Below.refl _ _) _
    have b2 := below_alloc b1 (.cells (arr .u64 ys) 52)
    refine ⟨4, by omega, by omega, rfl, ⟨fun j h1 h2 => by omega⟩, ⟨blk_alloc (blk_new _ _) _⟩, ⟨?_⟩, ⟨b2⟩⟩
    have := blk_new (w.alloc (.cells (arr .u64 xs) 52)) (.cells (arr .u64 ys) 52)
    rw [World.size_alloc] at this
    exact this
  case round =>
    obtain ⟨k, hk, hg, rfl, HE, B0, B1, HB⟩ := hrel
    cases k with
    | zero =>
      have hneg : ¬ (0 : Int) ≤ ((0 : Nat) : Int) - 1 := by omega
      have LE := Aside0.mk (less_eq xs ys HX.out HY.out (fun j h => HE.out j (by omega) h))
      go_wp2
      go_ret
      exact ⟨by rw [LE.out]; rfl, HB.out⟩
    | succ k =>
      have hc1 := blk_get B0.out k (by have := HX.out; omega)
      have hc2 := blk_get B1.out k (by have := HY.out; omega)
      have LA := Aside0.mk (less_at xs ys UX.out UY.out HX.out HY.out k (by omega) (fun j h1 h2 => HE.out j (by omega) h2))
      have hidx : ((k + 1 : Nat) : Int) - 1 = (k : Int) := by omega
      have h0 : (0 : Int) ≤ (k : Int) := by omega
      have h4 : (k : Int) < 4 := by omega
      by_cases heq : xs.getD k 0 = ys.getD k 0
      · have HE2 := Aside0.mk (show ∀ j, k ≤ j → j < 4 → xs.getD j 0 = ys.getD j 0 from fun j h1 h2 => by
          by_cases e : j = k
          · rw [e]; exact heq
          · exact HE.out j (by omega) h2)
        have hq : (xs.getD k 0 != ys.getD k 0) = false := by rw [heq]; simp
        rw [hidx]
        clear heq hidx
        generalize xs.getD k 0 = a at *
        generalize ys.getD k 0 = b at *
        go_wp2
        go_region
        go_wp2
        go_roundg k
        case measure => omega
        case rel => exact ⟨k, by omega, by omega, rfl, HE2, ⟨blk_drew B0.out⟩, ⟨blk_drew B1.out⟩, ⟨below_drew HB.out⟩⟩
      · have hq : (xs.getD k 0 != ys.getD k 0) = true := by simpa using heq
        have LQ := Aside0.mk (LA.out heq)
        rw [hidx]
        clear heq hidx
        generalize xs.getD k 0 = a at *
        generalize ys.getD k 0 = b at *
        go_wp2
        go_region
        go_wp2
        go_region
        go_wp2
        go_ret
        exact ⟨by rw [LQ.out]; rfl, below_drew (below_drew HB.out)⟩
set_option maxHeartbeats 400000 in
set_option maxRecDepth 100000 in
theorem impl_prime.calls (w : World) :
    Calls Try.prog 71 #[] w fun e w' => e = .returned (.agg (arr .u64 (num PP))) ∧ Below w.heap.size w w' := by
  rw [num_PP]
  have S0 := Aside0.mk ((St.start w).push rfl 52 .u64 z4)
  go_enter Try.func71, Try.ntmps71
  go_wp2_with (refine st_arr rfl 52 (.tmp 0) (.tmp 1) rfl w.heap.size (k := .u64) (xs := [18446744073709551597, 18446744073709551615, 18446744073709551615, 9223372036854775807]) rfl rfl (S0.out.blk 0 rfl) (m := 4) (by kernel_rfl) rfl rfl ?_; intro w' h1 h2 h4 h3; have H1 := Aside0.mk h1; have H3 := Aside0.mk (S0.out.row 0 rfl h1 h2 h3); clear h1 h2 h3 h4)
  exact bodyPost_ret (results_cell_row Try.results71 _ _ w.heap.size 52 _ (0, 0) _ rfl H1.out Try.underlying52 rfl (by kernel_rfl)) rfl ⟨rfl, H3.out.below⟩
def impl_isElement.f (l0 : List Int) : Option (Bool) := if okB l0 then some (isEl l0) else none
set_option maxHeartbeats 400000 in
set_option maxRecDepth 100000 in
theorem impl_isElement.calls (A0 : Option Addr) (c0 : Nat) (l0 : List Int) (r : Bool) (w : World) (hr0 : Kd.C (Kd.int .u8) w A0 l0.length l0) (hc0 : l0.length ≤ c0) (h : impl_isElement.f l0 = some r) :
    Calls Try.prog 36 #[.slice A0 l0.length c0] w fun e w' => e = .returned (.bool r) ∧ Below w.heap.size w w' := by
  have HR := Aside0.mk hr0
  clear hr0
  unfold impl_isElement.f at h
  by_cases ho : okB l0 = true
  · rw [if_pos ho] at h
    obtain rfl := Option.some.inj h
    clear h
    have OK := Aside0.mk (okB_ok l0 ho)
    by_cases hl : l0.length = 32
    · have e : isEl l0 = decide (bval l0 % P64 ^ 4 < PP % P64 ^ 4) := by
        have := bval_lt32 l0 OK.out hl
        unfold isEl
        rw [decide_eq_true hl, Bool.true_and, Nat.mod_eq_of_lt (show bval l0 < P64 ^ 4 from this), Nat.mod_eq_of_lt (show PP < P64 ^ 4 by decide)]
      rw [e]
      have HC : Aside0 (Calls Try.prog 27 #[.slice A0 32 c0] w fun e w' => e = .returned (.agg (arr .u64 (num (bval l0)))) ∧ Below w.heap.size w w') := by
        have := impl_numberOf.calls A0 c0 l0 w HR.out (by omega) OK.out
        rw [hl] at this
        exact ⟨this⟩
      clear e ho
      have hll : (l0.length : Int) = 32 := by omega
      go_enter Try.func36, Try.ntmps36
      go_wp2_with (first
        | ((with_reducible refine (HC.out).mono ?_); rintro e w1 ⟨rfl, hb1⟩; have B1 := Aside0.mk hb1; clear hb1)
        | ((with_reducible refine (impl_prime.calls _).mono ?_); rintro e w2 ⟨rfl, hb1⟩; have B2 := Aside0.mk (below_step B1.out hb1); clear hb1 B1)
        | ((with_reducible refine (impl_number_less.calls _ _ _).mono ?_); rintro e w3 ⟨rfl, hb1⟩; have B3 := Aside0.mk (below_step B2.out hb1); clear hb1 B2))
      go_ret
      exact ⟨rfl, B3.out⟩
    · have e : isEl l0 = false := by unfold isEl; rw [decide_eq_false hl]; rfl
      rw [e]
      have hll : ¬ (l0.length : Int) = 32 := by omega
      go_enter Try.func36, Try.ntmps36
      go_wp2
      refine bodyPost_ret (results_tmp Try.results36 _ _ _) (by rfl) ⟨rfl, Below.refl _ _⟩
  · rw [if_neg ho] at h; cases h
set_option maxHeartbeats 1000000 in
set_option maxRecDepth 100000 in
theorem impl_elementOf.calls (A0 : Option Addr) (c0 : Nat) (l0 : List Int) (w : World) (hr0 : Kd.C (Kd.int .u8) w A0 l0.length l0) (h32 : l0.length ≤ 32) (hb : Ok 256 l0) :
    Calls Try.prog 37 #[.slice A0 l0.length c0] w fun e w' => e = .returned (.agg (arr .u64 (num (bval l0)))) ∧ Below w.heap.size w w' := by
  have S := Aside0.mk ((St.start w).push rfl 34 .u64 z4)
  have HC := Aside0.mk (impl_numberOf.calls A0 c0 l0 (w.alloc (.cells (arr .u64 z4) 34)) (Kd.C_below hr0 S.out.below) h32 hb)
  clear hr0 hb h32
  go_enter Try.func37, Try.ntmps37
  go_wp2_with (first
    | ((refine (HC.out).mono ?_); rintro e w1 ⟨rfl, hb⟩; have S1 := Aside0.mk (S.out.step hb); clear hb)
    | (refine st_arr rfl 34 (.tmp 2) (.tmp 4) rfl w.heap.size (xs := num (bval l0)) rfl rfl (S1.out.blk 0 rfl) (m := 4) (by kernel_rfl) (num_length _) (by rw [num_length]; rfl) ?_; intro w' h1 h2 h4 h3; have H1 := Aside0.mk h1; have S2 := Aside0.mk (S1.out.row 0 rfl h1 h2 h3); clear h1 h2 h3 h4))
  exact bodyPost_ret (results_cell_row Try.results37 _ _ w.heap.size 34 _ (0, 0) _ rfl H1.out Try.underlying34 rfl (by rw [arr_size, num_length]; kernel_rfl)) rfl ⟨rfl, S2.out.below⟩
set_option maxHeartbeats 1000000 in
set_option maxRecDepth 100000 in
theorem mul64I.calls (x y : Int) (hx0 : 0 ≤ x) (hx : x < 18446744073709551616) (hy0 : 0 ≤ y) (hy : y < 18446744073709551616) (w : World) :
    Calls Try.prog 82 #[.int .u64 x, .int .u64 y] w fun e w' => e = .returned (.tuple #[.int .u64 (x * y / 18446744073709551616), .int .u64 (x * y % 18446744073709551616)]) ∧ w' = w := by
  have e := mul64_arith x y hx0 hx hy0 hy
  have A := and_low32 x hx0 hx
  have B := and_low32 y hy0 hy
  rw [← e]
  clear e
  have E := Aside0.mk A
  have F := Aside0.mk B
  clear A B
  go_enter Try.func82, Try.ntmps82
  go_wp2
  go_ret2
  refine ⟨?_, rfl⟩
  simp only [E.out, F.out, IntKind.wrap_u64]
  rw [and_low32 _ (by omega) (by omega)]
  rfl
theorem add64_calls (x y c : Int) (hx : 0 ≤ x) (hy : 0 ≤ y) (hc0 : 0 ≤ c) (hc : c ≤ 1) (w : World) :
   (callFunc 83 #[.int .u64 x, .int .u64 y, .int .u64 c]).run Try.prog w = .ok (.value (.tuple #[.int .u64 ((x + y + c) % 18446744073709551616), .int .u64 ((x + y + c) / 18446744073709551616)])) w := by
  rw [run_callFunc_extern (fn := Try.f83) (e := add64Entry) Try.func83 (by rfl) (by rfl) (by kernel_rfl) (by kernel_rfl), run_add64 x y c hx hy hc0 hc]
  rfl
set_option maxHeartbeats 1000000 in
set_option maxRecDepth 100000 in
theorem impl_number_times.calls (x y : Nat) (w : World) (hx : x < BB) (hy : y < BB) :
    Calls Try.prog 65 #[.agg (arr .u64 (num x)), .agg (arr .u64 (num y))] w fun e w' => e = .returned (.agg (arr .u64 (wid (x * y)))) ∧ Below w.heap.size w w' := by
  rw [← tm_wid x y hx hy]
  obtain ⟨M4, hM4⟩ : ∃ l, l = tmW (num x) (num y) 4 := ⟨_, rfl⟩
  rw [← hM4]
  have HM4 := Aside0.mk hM4
  clear hM4
  have LX := Aside0.mk (num_length x)
  have LY := Aside0.mk (num_length y)
  have OX := Aside0.mk (num_ok x)
  have OY := Aside0.mk (num_ok y)
  have LW := Aside0.mk (tmW_length (num x) (num y))
  have LR := Aside0.mk (fun i k => (tmR_length (num x) (num y) (tmW (num x) (num y) i) i k).trans (tmW_length _ _ i))
  have OR := Aside0.mk (fun i (hi : i < 4) k hk => tmR_ok x y i hi _ (tmW_ok x y i (by omega)) (tmW_length _ _ i) k hk)
  have SW := Aside0.mk (fun i => show tmW (num x) (num y) (i + 1) = (tmR (num x) (num y) i (tmW (num x) (num y) i) 4).1.set (i + 4) (tmR (num x) (num y) i (tmW (num x) (num y) i) 4).2 from by simp only [tmW])
  have S := Aside0.mk (((((St.start w).push rfl 52 .u64 (num x)).push (World.size_alloc ..) 52 .u64 (num y)).push (by rw [World.size_alloc, World.size_alloc]; rfl) 81 .u64 z8).push (by rw [World.size_alloc, World.size_alloc, World.size_alloc]; rfl) 81 .u64 z8)
  go_enter Try.func65, Try.ntmps65
  go_wp2_with (first
    | ((with_reducible refine gate_dst (N := 14) rfl ?_); refine ld_arr rfl 52 (.tmp 2) rfl w.heap.size rfl (S.out.blk 0 rfl) Try.underlying52 (m := 4) (by kernel_rfl) (num_length _) ?_))
  go_loopg [6, 7, 15] 4 (fun gg _ _ v15 wr => ∃ i : Nat, i ≤ 4 ∧ 4 - i ≤ gg ∧ v15 = .int .i64 i ∧ Aside0 (St w [⟨52, .u64, num x⟩, ⟨52, .u64, num y⟩, ⟨81, .u64, z8⟩, ⟨81, .u64, tmW (num x) (num y) i⟩] wr))
  case atStart => exact ⟨0, by omega, by omega, rfl, S⟩
  case round =>
    obtain ⟨i, hi, hg, rfl, S1⟩ := hrel
    by_cases hlt : i < 4
    · have hlti : (i : Int) < 4 := by omega
      have a := getD_range OX.out i (by rw [LX.out]; omega)
      have a1 := a.1
      have a2 : (num x).getD i 0 < 18446744073709551616 := a.2
      clear a
      have hix : ∀ W, (Instr.index 52 (.agg (arr .u64 (num x))) (.int .i64 (i : Int))).run Try.prog W = .ok (.int .u64 ((num x).getD i 0)) W := fun W => run_index_arr 52 32 4 .u64 (num x) i Try.underlying52 .u64 Try.underlying32 (by kernel_rfl) hlt LX.out
      have ER := Aside0.mk (fun k => show tmR (num x) (num y) i (tmW (num x) (num y) i) (k + 1) = ((tmR (num x) (num y) i (tmW (num x) (num y) i) k).1.set (i + k) (((num x).getD i 0 * (num y).getD k 0 + (tmR (num x) (num y) i (tmW (num x) (num y) i) k).1.getD (i + k) 0 + (tmR (num x) (num y) i (tmW (num x) (num y) i) k).2) % 18446744073709551616), ((num x).getD i 0 * (num y).getD k 0 + (tmR (num x) (num y) i (tmW (num x) (num y) i) k).1.getD (i + k) 0 + (tmR (num x) (num y) i (tmW (num x) (num y) i) k).2) / 18446744073709551616) from rfl)
      have ORi := Aside0.mk (fun k hk => OR.out i hlt k hk)
      have LRi := Aside0.mk (fun k => LR.out i k)
      have E0 := Aside0.mk (show tmR (num x) (num y) i (tmW (num x) (num y) i) 0 = (tmW (num x) (num y) i, 0) from rfl)
      have SWi := Aside0.mk (SW.out i)
      generalize (num x).getD i 0 = a at *
      generalize tmR (num x) (num y) i (tmW (num x) (num y) i) = R at *
      go_wp2_with (first
        | ((with_reducible refine gate_dst (N := 19) rfl ?_); refine ld_arr rfl 52 (.tmp 3) rfl (w.heap.size + 1) rfl (S1.out.blk 1 rfl) Try.underlying52 (m := 4) (by kernel_rfl) (num_length _) ?_))
      go_loopg [8, 9, 10, 11, 12, 13, 20] 4 (fun gg2 v8 _ _ _ _ _ v20 wr2 => ∃ k : Nat, k ≤ 4 ∧ 4 - k ≤ gg2 ∧ v20 = .int .i64 k ∧ v8 = .int .u64 (R k).2 ∧ Aside0 (St w [⟨52, .u64, num x⟩, ⟨52, .u64, num y⟩, ⟨81, .u64, z8⟩, ⟨81, .u64, (R k).1⟩] wr2))
      case atStart => exact ⟨0, by omega, by omega, rfl, by rw [E0.out], by rw [E0.out]; exact S1⟩
      case round =>
        obtain ⟨k, hk, hg2, rfl, rfl, S2⟩ := hrel
        obtain ⟨o1, o2, o3⟩ := ORi.out k hk
        by_cases hlt2 : k < 4
        · have hlti2 : (k : Int) < 4 := by omega
          have b := getD_range OY.out k (by rw [LY.out]; omega)
          have b1 := b.1
          have b2 : (num y).getD k 0 < 18446744073709551616 := b.2
          clear b
          have hiy : ∀ W, (Instr.index 52 (.agg (arr .u64 (num y))) (.int .i64 (k : Int))).run Try.prog W = .ok (.int .u64 ((num y).getD k 0)) W := fun W => run_index_arr 52 32 4 .u64 (num y) k Try.underlying52 .u64 Try.underlying32 (by kernel_rfl) hlt2 LY.out
          have hc1 := S2.out.cell 3 rfl (i + k) (by rw [LRi.out]; omega)
          have hf1 := blk_frozen (S2.out.blk 3 rfl) (i + k)
          have q := getD_range o1 (i + k) (by rw [LRi.out]; omega)
          have q1 := q.1
          have q2 : (R k).1.getD (i + k) 0 < 18446744073709551616 := q.2
          clear q
          have P0 := Aside0.mk (fun v => S2.out.set 3 rfl (i + k) v)
          have EQ := Aside0.mk (ER.out k)
          obtain ⟨j, hj⟩ : ∃ j : Nat, j = i + k := ⟨_, rfl⟩
          have hj1 : (i : Int) + (k : Int) = (j : Int) := by omega
          have hj2 : (j : Int) < 8 := by omega
          rw [← hj] at hc1 hf1 P0 EQ q1 q2
          clear hj o1
          generalize (R k).1.getD j 0 = o at *
          generalize (num y).getD k 0 = b at *
          generalize (R k).2 = c at *
          have hp := prod64 a b ⟨a1, a2⟩ ⟨b1, b2⟩
          have HM := Aside0.mk (fun W => mul64I.calls a b a1 a2 b1 b2 W)
          generalize a * b = p at *
          obtain ⟨ph, eph⟩ : ∃ ph, ph = p / 18446744073709551616 := ⟨_, rfl⟩
          obtain ⟨pl, epl⟩ : ∃ pl, pl = p % 18446744073709551616 := ⟨_, rfl⟩
          rw [← eph, ← epl] at HM
          have hadd1 := fun W => add64_calls pl o 0 (by omega) q1 (by omega) (by omega) W
          obtain ⟨s1, es1⟩ : ∃ s1, s1 = (pl + o + 0) % 18446744073709551616 := ⟨_, rfl⟩
          obtain ⟨c1, ec1⟩ : ∃ c1, c1 = (pl + o + 0) / 18446744073709551616 := ⟨_, rfl⟩
          rw [← es1, ← ec1] at hadd1
          have hadd2 := fun W => add64_calls s1 c 0 (by omega) o2 (by omega) (by omega) W
          obtain ⟨s2, es2⟩ : ∃ s2, s2 = (s1 + c + 0) % 18446744073709551616 := ⟨_, rfl⟩
          obtain ⟨c2, ec2⟩ : ∃ c2, c2 = (s1 + c + 0) / 18446744073709551616 := ⟨_, rfl⟩
          rw [← es2, ← ec2] at hadd2
          have w1 : 0 ≤ ph + c1 := by omega
          have w2 : ph + c1 < 18446744073709551616 := by omega
          have w3 : 0 ≤ ph + c1 + c2 := by omega
          have w4 : ph + c1 + c2 < 18446744073709551616 := by omega
          have f1 : (p + o + c) % 18446744073709551616 = s2 := by omega
          have f2 : (p + o + c) / 18446744073709551616 = ph + c1 + c2 := by omega
          rw [f1, f2] at EQ
          have P := Aside0.mk (P0.out s2)
          clear f1 f2 es1 ec1 es2 ec2 eph epl hp P0
          go_wp2_with ((with_reducible refine (HM.out _).mono ?_); rintro e w1 ⟨rfl, rfl⟩)
          go_roundg (4 - (k + 1))
          case measure => omega
          case rel => exact ⟨k + 1, by omega, by omega, by go_num, by rw [EQ.out], by rw [EQ.out]; exact P⟩
        · have hk4 : k = 4 := by omega
          subst hk4
          have hneg : ¬ ((4 : Nat) : Int) < 4 := by omega
          obtain ⟨j, hj⟩ : ∃ j : Nat, j = i + 4 := ⟨_, rfl⟩
          have hj1 : (i : Int) + 4 = (j : Int) := by omega
          have hj2 : (j : Int) < 8 := by omega
          have hc1 := S2.out.cell 3 rfl j (by rw [LRi.out]; omega)
          have hf1 := blk_frozen (S2.out.blk 3 rfl) j
          have P := Aside0.mk (S2.out.set 3 rfl j (R 4).2)
          have EQ := SWi
          rw [← hj] at EQ
          clear hj o1
          generalize (R 4).2 = c at *
          go_wp2
          go_roundg (4 - (i + 1))
          case measure => omega
          case rel => exact ⟨i + 1, by omega, by omega, by go_num, by rw [EQ.out]; exact P⟩
    · have hi4 : i = 4 := by omega
      subst hi4
      have hneg : ¬ ((4 : Nat) : Int) < 4 := by omega
      have l := LW.out 4
      rw [← HM4.out] at S1 l
      have L := Aside0.mk l
      clear l
      go_wp2_with (first
        | ((with_reducible refine gate_dst (N := 64) rfl ?_); refine ld_arr rfl 81 (.tmp 5) rfl (w.heap.size + 3) rfl (S1.out.blk 3 rfl) Try.underlying81 (m := 8) (by kernel_rfl) L.out ?_)
        | (refine st_arr rfl 81 (.tmp 4) (.tmp 64) rfl (w.heap.size + 2) (xs := M4) rfl rfl (S1.out.blk 2 rfl) (m := 8) (by kernel_rfl) L.out (by rw [L.out]; rfl) ?_; intro w' h1 h2 h4 h3; have H1 := Aside0.mk h1; have S4 := Aside0.mk (S1.out.row 2 rfl h1 h2 h3); clear h1 h2 h3 h4))
      exact bodyPost_ret (results_cell_row Try.results65 _ _ (w.heap.size + 2) 81 _ (0, 0) _ rfl H1.out Try.underlying81 rfl (by rw [arr_size, L.out]; kernel_rfl)) rfl ⟨rfl, S4.out.below⟩
def plusS (xs ys : List Int) : Nat → List Int × Int
  | 0 => (xs, 0)
  | k + 1 => ((plusS xs ys k).1.set k (((plusS xs ys k).1.getD k 0 + ys.getD k 0 + (plusS xs ys k).2) % 18446744073709551616), ((plusS xs ys k).1.getD k 0 + ys.getD k 0 + (plusS xs ys k).2) / 18446744073709551616)
theorem plusS_ok (xs ys : List Int) (hx : Ok P64 xs) (hy : Ok P64 ys) (lx : xs.length = 4) (ly : ys.length = 4) (k : Nat) (hk : k ≤ 4) : Ok P64 (plusS xs ys k).1 ∧ (plusS xs ys k).1.length = 4 ∧ 0 ≤ (plusS xs ys k).2 ∧ (plusS xs ys k).2 ≤ 1 := by
  induction k with
  | zero => exact ⟨hx, lx, by simp [plusS], by simp [plusS]⟩
  | succ k ih =>
    obtain ⟨h1, h2, h3, h4⟩ := ih (by omega)
    have a := getD_range h1 k (by omega)
    have b := getD_range hy k (by omega)
    simp only [P64] at a b
    refine ⟨ok_set h1 k _ (by omega) (by simp only [P64]; omega), by simp [plusS, h2], by simp only [plusS]; omega, by simp only [plusS]; omega⟩
theorem plusS_val (x y : Nat) : (plusS (num x) (num y) 4).1 = num (x + y) ∧ (plusS (num x) (num y) 4).2 = (((x % P64 ^ 4 + y % P64 ^ 4) / P64 ^ 4 : Nat) : Int) := by
  have hx := num_val x
  have hy := num_val y
  obtain ⟨o1, o2, o3, o4⟩ := plusS_ok (num x) (num y) (num_ok x) (num_ok y) (num_length x) (num_length y) 4 (by omega)
  have hv : lval P64 (plusS (num x) (num y) 4).1 + (P64 : Int) ^ 4 * (plusS (num x) (num y) 4).2 = lval P64 (num x) + lval P64 (num y) := by
    have lx := num_length x
    have ly := num_length y
    revert lx ly
    generalize num x = xs
    generalize num y = ys
    intro lx ly
    match xs, ys, lx, ly with
    | [a0, a1, a2, a3], [b0, b1, b2, b3], _, _ =>
      simp only [plusS, lval, P64, List.set_cons_succ, List.set_cons_zero, List.getD_cons_succ, List.getD_cons_zero]
      omega
  have hM : (P64 : Int) ^ 4 = ((P64 ^ 4 : Nat) : Int) := by simp
  rw [hx, hy, hM] at hv
  have hlt : lval P64 (plusS (num x) (num y) 4).1 < ((P64 ^ 4 : Nat) : Int) := by
    have h := lval_limbs P64 (by decide) 4 (lval P64 (plusS (num x) (num y) 4).1).toNat
    have h2 := limbs_lval P64 (by decide) _ o1
    rw [o2] at h2
    rw [h2] at h
    have := Nat.mod_lt (lval P64 (plusS (num x) (num y) 4).1).toNat (show 0 < P64 ^ 4 by decide)
    omega
  have h0 := lval_nonneg P64 _ o1
  have hMp : P64 ^ 4 = 115792089237316195423570985008687907853269984665640564039457584007913129639936 := by decide
  rw [hMp] at hv hlt ⊢
  have e2 : (plusS (num x) (num y) 4).2 = (((x % 115792089237316195423570985008687907853269984665640564039457584007913129639936 + y % 115792089237316195423570985008687907853269984665640564039457584007913129639936) / 115792089237316195423570985008687907853269984665640564039457584007913129639936 : Nat) : Int) := by omega
  refine ⟨eq_num o1 o2 (x + y) ?_, e2⟩
  rw [hMp]
  omega
set_option maxHeartbeats 2000000 in
theorem impl_number_plus.calls (x y : Nat) (w : World) :
    Calls Try.prog 67 #[.agg (arr .u64 (num x)), .agg (arr .u64 (num y))] w fun e w' => e = .returned (.tuple #[.agg (arr .u64 (num (x + y))), .int .u64 (((x % P64 ^ 4 + y % P64 ^ 4) / P64 ^ 4 : Nat) : Int)]) ∧ Below w.heap.size w w' := by
  obtain ⟨V1, V2⟩ := plusS_val x y
  rw [← V1, ← V2]
  clear V1 V2
  obtain ⟨xs, hxs⟩ : ∃ l, l = num x := ⟨_, rfl⟩
  obtain ⟨ys, hys⟩ : ∃ l, l = num y := ⟨_, rfl⟩
  have HX := Aside0.mk (hxs ▸ num_length x)
  have HY := Aside0.mk (hys ▸ num_length y)
  have UX := Aside0.mk (hxs ▸ num_ok x)
  have UY := Aside0.mk (hys ▸ num_ok y)
  rw [← hxs, ← hys]
  clear hxs hys
  go_enter Try.func67, Try.ntmps67
  go_wp2
  go_loopg [6, 7, 8] 4 (fun gg v6 _ v8 wr => ∃ k : Nat, k ≤ 4 ∧ 4 - k ≤ gg ∧ v8 = .int .i64 k ∧ v6 = .int .u64 (plusS xs ys k).2 ∧ Aside0 (wr.heap[w.heap.size]? = some (.cells (arr .u64 (plusS xs ys k).1) 52 (0, 0))) ∧ Aside0 (wr.heap[w.heap.size + 1]? = some (.cells (arr .u64 ys) 52 (0, 0))) ∧ Aside0 (wr.heap[w.heap.size + 2]? = some (.cells (arr .u64 [0, 0, 0, 0]) 52 (0, 0))) ∧ Aside0 (Below w.heap.size w wr))
  case atStart =>
    have b1 : Below w.heap.size w (w.alloc (.cells (arr .u64 xs) 52)) := below_alloc (Below.refl _ _) _
    have b2 := below_alloc b1 (.cells (arr .u64 ys) 52)
    have b3 := below_alloc b2 (.cells (arr .u64 [0, 0, 0, 0]) 52)
    refine ⟨0, by omega, by omega, rfl, rfl, ⟨blk_alloc (blk_alloc (blk_new _ _) _) _⟩, ⟨?_⟩, ⟨?_⟩, ⟨b3⟩⟩
    · have := blk_new (w.alloc (.cells (arr .u64 xs) 52)) (.cells (arr .u64 ys) 52)
      rw [World.size_alloc] at this
      exact blk_alloc this _
    · have := blk_new ((w.alloc (.cells (arr .u64 xs) 52)).alloc (.cells (arr .u64 ys) 52)) (.cells (arr .u64 [0, 0, 0, 0]) 52)
      rw [World.size_alloc, World.size_alloc] at this
      exact this
  case round =>
    obtain ⟨k, hk, hg, rfl, rfl, B0, B1, B2, HB⟩ := hrel
    obtain ⟨o1, o2, o3, o4⟩ := plusS_ok xs ys UX.out UY.out HX.out HY.out k hk
    by_cases hlt : k < 4
    · have hlti : (k : Int) < 4 := by omega
      have hc1 := blk_get B0.out k (by omega)
      have hc2 := blk_get B1.out k (by have := HY.out; omega)
      have hf1 := blk_frozen B0.out k
      have a := getD_range o1 k (by omega)
      have b := getD_range UY.out k (by have := HY.out; omega)
      have hadd := fun W => add64_calls _ _ _ a.1 b.1 o3 o4 W
      have P0 := Aside0.mk (blk_upd B0.out k (((plusS xs ys k).1.getD k 0 + ys.getD k 0 + (plusS xs ys k).2) % 18446744073709551616))
      have EQ := Aside0.mk (show plusS xs ys (k + 1) = ((plusS xs ys k).1.set k (((plusS xs ys k).1.getD k 0 + ys.getD k 0 + (plusS xs ys k).2) % 18446744073709551616), ((plusS xs ys k).1.getD k 0 + ys.getD k 0 + (plusS xs ys k).2) / 18446744073709551616) from rfl)
      clear o1 o2 o3 o4 a b
      generalize (plusS xs ys k).1.getD k 0 = x at *
      generalize ys.getD k 0 = y at *
      have PB := Aside0.mk (below_set (j := k) (v := .int .u64 ((x + y + (plusS xs ys k).2) % 18446744073709551616)) HB.out (Nat.le_refl _))
      go_wp2
      go_region
      go_wp2
      go_roundg (4 - (k + 1))
      case measure => omega
      case rel =>
        exact ⟨k + 1, by omega, by omega, by go_num, by rw [EQ.out], by rw [EQ.out]; exact ⟨blk_drew P0.out⟩, ⟨blk_drew (blk_far B1.out (by simp) _)⟩, ⟨blk_drew (blk_far B2.out (by simp) _)⟩, ⟨below_drew PB.out⟩⟩
    · obtain rfl : k = 4 := by omega
      have hneg : ¬ ((4 : Nat) : Int) < 4 := by omega
      have L := Aside0.mk o2
      clear o1 o2 o3 o4
      go_wp2_with (first
        | ((with_reducible refine gate_dst (N := 25) rfl ?_); refine ld_arr rfl 52 (.tmp 2) rfl w.heap.size rfl B0.out Try.underlying52 (m := 4) (by kernel_rfl) L.out ?_)
        | (refine st_arr rfl 52 (.tmp 4) (.tmp 25) rfl (w.heap.size + 2) (xs := (plusS xs ys 4).1) rfl rfl B2.out (m := 4) (by kernel_rfl) L.out (by rw [L.out]; rfl) ?_; intro w' h1 h2 h4 h3; have H1 := Aside0.mk h1; have H3 := Aside0.mk h3; clear h1 h2 h3 h4))
      exact bodyPost_ret (results_ct Try.results67 _ _ (w.heap.size + 2) 52 _ (0, 0) _ rfl H1.out Try.underlying52 rfl (by rw [arr_size, L.out]; kernel_rfl)) rfl ⟨rfl, H3.out _ _ HB.out (by omega)⟩
def sub64Entry : Array Value → Sem Value := fun args => do
  let (x, y, b) ← Extern.MathBitsCarry.three "Sub64" args
  pure (Extern.MathBitsCarry.pair ((x + Extern.MathBitsCarry.m64 - y - b) % Extern.MathBitsCarry.m64) (if x < y + b then 1 else 0))
theorem run_sub64 {P : Program} (x y c : Int) (hx : 0 ≤ x) (hx1 : x < 18446744073709551616) (hy : 0 ≤ y) (hy1 : y < 18446744073709551616) (hc0 : 0 ≤ c) (hc : c ≤ 1) (w : World) :
    (sub64Entry #[.int .u64 x, .int .u64 y, .int .u64 c]).run P w = .ok (.tuple #[.int .u64 ((x - y - c) % 18446744073709551616), .int .u64 (-((x - y - c) / 18446744073709551616))]) w := by
  have key : ∀ k : Nat, k ≤ 1 → (sub64Entry #[.int .u64 x, .int .u64 y, .int .u64 (k : Int)]).run P w =
      .ok (Extern.MathBitsCarry.pair ((x.toNat + Extern.MathBitsCarry.m64 - y.toNat - k) % Extern.MathBitsCarry.m64) (if x.toNat < y.toNat + k then 1 else 0)) w := by
    intro k hk
    have : k = 0 ∨ k = 1 := by omega
    rcases this with rfl | rfl <;> rfl
  obtain ⟨k, rfl⟩ := Int.eq_ofNat_of_zero_le hc0
  rw [key k (by omega)]
  obtain ⟨X, rfl⟩ := Int.eq_ofNat_of_zero_le hx
  obtain ⟨Y, rfl⟩ := Int.eq_ofNat_of_zero_le hy
  simp only [Extern.MathBitsCarry.pair, Extern.MathBitsCarry.m64, Int.toNat_natCast]
  have e1 : (Int.ofNat ((X + 2 ^ 64 - Y - k) % 2 ^ 64)) = (((X : Int) - Y - k) % 18446744073709551616) := by simp only [Int.ofNat_eq_natCast]; omega
  have e2 : (Int.ofNat (if X < Y + k then 1 else 0)) = -(((X : Int) - Y - k) / 18446744073709551616) := by
    split
    · simp only [Int.ofNat_eq_natCast]; omega
    · simp only [Int.ofNat_eq_natCast]; omega
  rw [e1, e2]
theorem sub64_calls (x y c : Int) (hx : 0 ≤ x) (hx1 : x < 18446744073709551616) (hy : 0 ≤ y) (hy1 : y < 18446744073709551616) (hc0 : 0 ≤ c) (hc : c ≤ 1) (w : World) :
   (callFunc 84 #[.int .u64 x, .int .u64 y, .int .u64 c]).run Try.prog w = .ok (.value (.tuple #[.int .u64 ((x - y - c) % 18446744073709551616), .int .u64 (-((x - y - c) / 18446744073709551616))])) w := by
  rw [run_callFunc_extern (fn := Try.f84) (e := sub64Entry) Try.func84 (by rfl) (by rfl) (by kernel_rfl) (by kernel_rfl), run_sub64 x y c hx hx1 hy hy1 hc0 hc]
  rfl
def minusS (xs ys : List Int) : Nat → List Int × Int
  | 0 => (xs, 0)
  | k + 1 => ((minusS xs ys k).1.set k (((minusS xs ys k).1.getD k 0 - ys.getD k 0 - (minusS xs ys k).2) % 18446744073709551616), -(((minusS xs ys k).1.getD k 0 - ys.getD k 0 - (minusS xs ys k).2) / 18446744073709551616))
theorem minusS_ok (xs ys : List Int) (hx : Ok P64 xs) (hy : Ok P64 ys) (lx : xs.length = 4) (ly : ys.length = 4) (k : Nat) (hk : k ≤ 4) : Ok P64 (minusS xs ys k).1 ∧ (minusS xs ys k).1.length = 4 ∧ 0 ≤ (minusS xs ys k).2 ∧ (minusS xs ys k).2 ≤ 1 := by
  induction k with
  | zero => exact ⟨hx, lx, by simp [minusS], by simp [minusS]⟩
  | succ k ih =>
    obtain ⟨h1, h2, h3, h4⟩ := ih (by omega)
    have a := getD_range h1 k (by omega)
    have b := getD_range hy k (by omega)
    simp only [P64] at a b
    refine ⟨ok_set h1 k _ (by omega) (by simp only [P64]; omega), by simp [minusS, h2], by simp only [minusS]; omega, by simp only [minusS]; omega⟩
theorem minusS_val (x y : Nat) : (minusS (num x) (num y) 4).1 = num (x % P64 ^ 4 + P64 ^ 4 - y % P64 ^ 4) ∧ (minusS (num x) (num y) 4).2 = (if x % P64 ^ 4 < y % P64 ^ 4 then (1 : Int) else 0) := by
  have hx := num_val x
  have hy := num_val y
  obtain ⟨o1, o2, o3, o4⟩ := minusS_ok (num x) (num y) (num_ok x) (num_ok y) (num_length x) (num_length y) 4 (by omega)
  have hv : lval P64 (minusS (num x) (num y) 4).1 - (P64 : Int) ^ 4 * (minusS (num x) (num y) 4).2 = lval P64 (num x) - lval P64 (num y) := by
    have lx := num_length x
    have ly := num_length y
    revert lx ly
    generalize num x = xs
    generalize num y = ys
    intro lx ly
    match xs, ys, lx, ly with
    | [a0, a1, a2, a3], [b0, b1, b2, b3], _, _ =>
      simp only [minusS, lval, P64, List.set_cons_succ, List.set_cons_zero, List.getD_cons_succ, List.getD_cons_zero]
      omega
  have hM : (P64 : Int) ^ 4 = ((P64 ^ 4 : Nat) : Int) := by simp
  rw [hx, hy, hM] at hv
  have hlt : lval P64 (minusS (num x) (num y) 4).1 < ((P64 ^ 4 : Nat) : Int) := by
    have h := lval_limbs P64 (by decide) 4 (lval P64 (minusS (num x) (num y) 4).1).toNat
    have h2 := limbs_lval P64 (by decide) _ o1
    rw [o2] at h2
    rw [h2] at h
    have := Nat.mod_lt (lval P64 (minusS (num x) (num y) 4).1).toNat (show 0 < P64 ^ 4 by decide)
    omega
  have h0 := lval_nonneg P64 _ o1
  have hMp : P64 ^ 4 = 115792089237316195423570985008687907853269984665640564039457584007913129639936 := by decide
  rw [hMp] at hv hlt ⊢
  have hxl := Nat.mod_lt x (show 0 < 115792089237316195423570985008687907853269984665640564039457584007913129639936 by decide)
  have hyl := Nat.mod_lt y (show 0 < 115792089237316195423570985008687907853269984665640564039457584007913129639936 by decide)
  have e2 : (minusS (num x) (num y) 4).2 = (if x % 115792089237316195423570985008687907853269984665640564039457584007913129639936 < y % 115792089237316195423570985008687907853269984665640564039457584007913129639936 then (1 : Int) else 0) := by
    split <;> omega
  refine ⟨eq_num o1 o2 (x % P64 ^ 4 + P64 ^ 4 - y % P64 ^ 4) ?_, e2⟩
  rw [hMp]
  omega
set_option maxHeartbeats 2000000 in
theorem impl_number_minus.calls (x y : Nat) (w : World) :
    Calls Try.prog 68 #[.agg (arr .u64 (num x)), .agg (arr .u64 (num y))] w fun e w' => e = .returned (.tuple #[.agg (arr .u64 (num (x % P64 ^ 4 + P64 ^ 4 - y % P64 ^ 4))), .int .u64 (if x % P64 ^ 4 < y % P64 ^ 4 then (1 : Int) else 0)]) ∧ Below w.heap.size w w' := by
  obtain ⟨V1, V2⟩ := minusS_val x y
  rw [← V1, ← V2]
  clear V1 V2
  obtain ⟨xs, hxs⟩ : ∃ l, l = num x := ⟨_, rfl⟩
  obtain ⟨ys, hys⟩ : ∃ l, l = num y := ⟨_, rfl⟩
  have HX := Aside0.mk (hxs ▸ num_length x)
  have HY := Aside0.mk (hys ▸ num_length y)
  have UX := Aside0.mk (hxs ▸ num_ok x)
  have UY := Aside0.mk (hys ▸ num_ok y)
  rw [← hxs, ← hys]
  clear hxs hys
  go_enter Try.func68, Try.ntmps68
  go_wp2
  go_loopg [6, 7, 8] 4 (fun gg v6 _ v8 wr => ∃ k : Nat, k ≤ 4 ∧ 4 - k ≤ gg ∧ v8 = .int .i64 k ∧ v6 = .int .u64 (minusS xs ys k).2 ∧ Aside0 (wr.heap[w.heap.size]? = some (.cells (arr .u64 (minusS xs ys k).1) 52 (0, 0))) ∧ Aside0 (wr.heap[w.heap.size + 1]? = some (.cells (arr .u64 ys) 52 (0, 0))) ∧ Aside0 (wr.heap[w.heap.size + 2]? = some (.cells (arr .u64 [0, 0, 0, 0]) 52 (0, 0))) ∧ Aside0 (Below w.heap.size w wr))
  case atStart =>
    have b1 : Below w.heap.size w (w.alloc (.cells (arr .u64 xs) 52)) := below_alloc (Below.refl _ _) _
    have b2 := below_alloc b1 (.cells (arr .u64 ys) 52)
    have b3 := below_alloc b2 (.cells (arr .u64 [0, 0, 0, 0]) 52)
    refine ⟨0, by omega, by omega, rfl, rfl, ⟨blk_alloc (blk_alloc (blk_new _ _) _) _⟩, ⟨?_⟩, ⟨?_⟩, ⟨b3⟩⟩
    · have := blk_new (w.alloc (.cells (arr .u64 xs) 52)) (.cells (arr .u64 ys) 52)
      rw [World.size_alloc] at this
      exact blk_alloc this _
    · have := blk_new ((w.alloc (.cells (arr .u64 xs) 52)).alloc (.cells (arr .u64 ys) 52)) (.cells (arr .u64 [0, 0, 0, 0]) 52)
      rw [World.size_alloc, World.size_alloc] at this
      exact this
  case round =>
    obtain ⟨k, hk, hg, rfl, rfl, B0, B1, B2, HB⟩ := hrel
    obtain ⟨o1, o2, o3, o4⟩ := minusS_ok xs ys UX.out UY.out HX.out HY.out k hk
    by_cases hlt : k < 4
    · have hlti : (k : Int) < 4 := by omega
      have hc1 := blk_get B0.out k (by omega)
      have hc2 := blk_get B1.out k (by have := HY.out; omega)
      have hf1 := blk_frozen B0.out k
      have a := getD_range o1 k (by omega)
      have b := getD_range UY.out k (by have := HY.out; omega)
      have hadd := fun W => sub64_calls _ _ _ a.1 a.2 b.1 b.2 o3 o4 W
      have P0 := Aside0.mk (blk_upd B0.out k (((minusS xs ys k).1.getD k 0 - ys.getD k 0 - (minusS xs ys k).2) % 18446744073709551616))
      have EQ := Aside0.mk (show minusS xs ys (k + 1) = ((minusS xs ys k).1.set k (((minusS xs ys k).1.getD k 0 - ys.getD k 0 - (minusS xs ys k).2) % 18446744073709551616), -(((minusS xs ys k).1.getD k 0 - ys.getD k 0 - (minusS xs ys k).2) / 18446744073709551616)) from rfl)
      clear o1 o2 o3 o4 a b
      generalize (minusS xs ys k).1.getD k 0 = x at *
      generalize ys.getD k 0 = y at *
      have PB := Aside0.mk (below_set (j := k) (v := .int .u64 ((x - y - (minusS xs ys k).2) % 18446744073709551616)) HB.out (Nat.le_refl _))
      go_wp2
      go_region
      go_wp2
      go_roundg (4 - (k + 1))
      case measure => omega
      case rel =>
        exact ⟨k + 1, by omega, by omega, by go_num, by rw [EQ.out], by rw [EQ.out]; exact ⟨blk_drew P0.out⟩, ⟨blk_drew (blk_far B1.out (by simp) _)⟩, ⟨blk_drew (blk_far B2.out (by simp) _)⟩, ⟨below_drew PB.out⟩⟩
    · obtain rfl : k = 4 := by omega
      have hneg : ¬ ((4 : Nat) : Int) < 4 := by omega
      have L := Aside0.mk o2
      clear o1 o2 o3 o4
      go_wp2_with (first
        | ((with_reducible refine gate_dst (N := 25) rfl ?_); refine ld_arr rfl 52 (.tmp 2) rfl w.heap.size rfl B0.out Try.underlying52 (m := 4) (by kernel_rfl) L.out ?_)
        | (refine st_arr rfl 52 (.tmp 4) (.tmp 25) rfl (w.heap.size + 2) (xs := (minusS xs ys 4).1) rfl rfl B2.out (m := 4) (by kernel_rfl) L.out (by rw [L.out]; rfl) ?_; intro w' h1 h2 h4 h3; have H1 := Aside0.mk h1; have H3 := Aside0.mk h3; clear h1 h2 h3 h4))
      exact bodyPost_ret (results_ct Try.results68 _ _ (w.heap.size + 2) 52 _ (0, 0) _ rfl H1.out Try.underlying52 rfl (by rw [arr_size, L.out]; kernel_rfl)) rfl ⟨rfl, H3.out _ _ HB.out (by omega)⟩
set_option maxHeartbeats 1000000 in
set_option maxRecDepth 100000 in
theorem impl_number_reduced.calls (x : Nat) (w : World) :
    Calls Try.prog 73 #[.agg (arr .u64 (num x))] w fun e w' => e = .returned (.agg (arr .u64 (num (x % BB % PP)))) ∧ Below w.heap.size w w' := by
  rw [← num_mod x]
  have hx := Nat.mod_lt x (show 0 < BB by decide)
  generalize x % BB = x at *
  go_enter Try.func73, Try.ntmps73
  go_wp2
  go_loopg [] 2 (fun gg wr => ∃ y : Nat, y < BB ∧ y % PP = x % PP ∧ y / PP ≤ gg ∧ Aside0 (St w [⟨52, .u64, num y⟩, ⟨34, .u64, z4⟩] wr))
  case atStart => exact ⟨x, hx, rfl, by rw [FldB.PP_eq]; rw [BB_eq] at hx; omega, ⟨((St.start w).push rfl 52 .u64 (num x)).push (World.size_alloc ..) 34 .u64 z4⟩⟩
  case round =>
    obtain ⟨y, hy, hm, hg, S⟩ := hrel
    have hb4 : P64 ^ 4 = BB := by decide
    have hpb : PP < BB := by decide
    by_cases hp : y < PP
    · have HL : Aside0 (∀ W, Calls Try.prog 63 #[.agg (arr .u64 (num y)), .agg (arr .u64 (num PP))] W fun e w' => e = .returned (.bool true) ∧ Below W.heap.size W w') := ⟨fun W => by
        have h := impl_number_less.calls y PP W
        rw [hb4, Nat.mod_eq_of_lt hy, Nat.mod_eq_of_lt hpb, decide_eq_true hp] at h
        exact h⟩
      have EY := Aside0.mk (show y = x % PP by rw [← hm, Nat.mod_eq_of_lt hp])
      clear hm hb4 hpb hp hy
      go_wp2
      refine start_ (n := 4) (S := fun w' => St w [⟨52, .u64, num y⟩, ⟨34, .u64, z4⟩] w') (ds := []) #[false, false, false, false] (by kernel_rfl) rfl rfl (S.out.drew) (fun hHeld => ?_)
      refine take_ (i := 0) (N := some 3) (v := ?_) (a' := ?_) #[true, false, false, false] rfl rfl (by kernel_rfl) (fun _ _ _ h => h) (Or.inl ⟨by rfl, ?_⟩) hHeld ?_ ?_
      rotate_left
      · intro w' s0
        refine (run_ld 52 (.tmp 1) (by rfl) w.heap.size (by rfl) (s0.blk 0 rfl) Try.underlying52 (m := 4) (by kernel_rfl) (num_length _)).trans ?_
        with_reducible rfl
      rotate_left
      · simp only [Act.put, List.setIfInBounds_toArray, List.set_cons_zero, List.set_cons_succ, i64_w, i32_w]
        rfl
      refine one_ (i := 1) (N := some 4) #[true, true, false, false] rfl rfl (by kernel_rfl) (by decide) (fun K hK => ?_)
      have S0 := Aside0.mk (S.out.drew)
      refine goes_ Try.func71 (by kernel_rfl) rfl #[] (by rfl) rfl rfl (by simp only [List.map_toArray, List.map_cons, List.map_nil] <;> rfl) ?_
      with_reducible refine (impl_prime.calls _).mono ?_
      rintro e w3 ⟨rfl, hb⟩
      refine ⟨_, rfl, ?_⟩
      have S1 := Aside0.mk (S0.out.step hb)
      clear hb
      refine hK.out _ _ (S1.out) (fun hHeld => ?_)
      clear hK K
      refine norm_ (a' := ?_) ?_ ?_
      rotate_left
      · show Act.put _ (some 4) _ = _
        simp only [Act.put, List.setIfInBounds_toArray, List.set_cons_zero, List.set_cons_succ, i64_w, i32_w]
        rfl
      refine one_ (i := 2) (N := some 5) #[true, true, true, false] rfl rfl (by kernel_rfl) (by decide) (fun K hK => ?_)
      refine goes_ Try.func63 (by kernel_rfl) rfl #[.agg (arr .u64 (num y)), .agg (arr .u64 (num PP))] (by rfl) rfl rfl (by simp only [List.map_toArray, List.map_cons, List.map_nil] <;> rfl) ?_
      with_reducible refine (HL.out _).mono ?_
      rintro e w3 ⟨rfl, hb⟩
      refine ⟨_, rfl, ?_⟩
      have S2 := Aside0.mk (S1.out.step hb)
      clear hb
      refine hK.out _ _ (S2.out) (fun hHeld => ?_)
      clear hK K
      refine norm_ (a' := ?_) ?_ ?_
      rotate_left
      · show Act.put _ (some 5) _ = _
        simp only [Act.put, List.setIfInBounds_toArray, List.set_cons_zero, List.set_cons_succ, i64_w, i32_w]
        rfl
      refine pure_ (i := 3) (N := some 6) (v := ?_) (a' := ?_) #[true, true, true, true] rfl rfl (by kernel_rfl) (fun _ _ _ h => h) (Or.inl ⟨by rfl, ?_⟩) ?_ ?_
      rotate_left
      · intro w'
        go_simp
        with_reducible rfl
      rotate_left
      · simp only [Act.put, List.setIfInBounds_toArray, List.set_cons_zero, List.set_cons_succ, i64_w, i32_w]
        rfl
      refine done_ (by kernel_rfl) ?_
      go_wp2_with (first
        | ((with_reducible refine gate_dst (N := 13) rfl ?_); refine ld_arr rfl 52 (.tmp 1) rfl w.heap.size rfl (S2.out.blk 0 rfl) Try.underlying52 (m := 4) (by kernel_rfl) (num_length _) ?_)
        | (refine st_arr rfl 34 (.tmp 2) (.tmp 13) rfl (w.heap.size + 1) (xs := num y) rfl rfl (S2.out.blk 1 rfl) (m := 4) (by kernel_rfl) (num_length _) (by rw [num_length]; rfl) ?_; intro w' h1 h2 h4 h3; have H1 := Aside0.mk h1; have S3 := Aside0.mk (S2.out.row 1 rfl h1 h2 h3); clear h1 h2 h3 h4))
      exact bodyPost_ret (results_cell_row Try.results73 _ _ (w.heap.size + 1) 34 _ (0, 0) _ rfl H1.out Try.underlying34 rfl (by rw [arr_size, num_length]; kernel_rfl)) rfl ⟨by rw [EY.out], S3.out.below⟩
    · have HL : Aside0 (∀ W, Calls Try.prog 63 #[.agg (arr .u64 (num y)), .agg (arr .u64 (num PP))] W fun e w' => e = .returned (.bool false) ∧ Below W.heap.size W w') := ⟨fun W => by
        have h := impl_number_less.calls y PP W
        rw [hb4, Nat.mod_eq_of_lt hy, Nat.mod_eq_of_lt hpb, decide_eq_false hp] at h
        exact h⟩
      obtain ⟨bw, HM⟩ : ∃ bw : Value, Aside0 (∀ W, Calls Try.prog 68 #[.agg (arr .u64 (num y)), .agg (arr .u64 (num PP))] W fun e w' => e = .returned (.tuple #[.agg (arr .u64 (num (y - PP))), bw]) ∧ Below W.heap.size W w') := ⟨_, ⟨fun W => by
        have h := impl_number_minus.calls y PP W
        rw [hb4, Nat.mod_eq_of_lt hy, Nat.mod_eq_of_lt hpb] at h
        have e1 : y + BB - PP = (y - PP) + BB := by omega
        have e2 : (y + BB - PP) % BB = (y - PP) % BB := (congrArg (· % BB) e1).trans (Nat.add_mod_right _ _)
        have e : num (y + BB - PP) = num (y - PP) := (num_mod (y + BB - PP)).symm.trans ((congrArg num e2).trans (num_mod (y - PP)))
        rw [e] at h
        exact h⟩⟩
      have FY := Aside0.mk (show (y - PP) < BB ∧ (y - PP) % PP = x % PP ∧ (y - PP) / PP + 1 = y / PP by
        refine ⟨by omega, ?_, ?_⟩
        · rw [← hm, Nat.mod_eq_sub_mod (show PP ≤ y by omega)]
        · rw [Nat.div_eq_sub_div (show 0 < PP by decide) (show PP ≤ y by omega)])
      clear hm hb4 hpb hp hy
      go_wp2
      refine start_ (n := 4) (S := fun w' => St w [⟨52, .u64, num y⟩, ⟨34, .u64, z4⟩] w') (ds := []) #[false, false, false, false] (by kernel_rfl) rfl rfl (S.out.drew) (fun hHeld => ?_)
      refine take_ (i := 0) (N := some 3) (v := ?_) (a' := ?_) #[true, false, false, false] rfl rfl (by kernel_rfl) (fun _ _ _ h => h) (Or.inl ⟨by rfl, ?_⟩) hHeld ?_ ?_
      rotate_left
      · intro w' s0
        refine (run_ld 52 (.tmp 1) (by rfl) w.heap.size (by rfl) (s0.blk 0 rfl) Try.underlying52 (m := 4) (by kernel_rfl) (num_length _)).trans ?_
        with_reducible rfl
      rotate_left
      · simp only [Act.put, List.setIfInBounds_toArray, List.set_cons_zero, List.set_cons_succ, i64_w, i32_w]
        rfl
      refine one_ (i := 1) (N := some 4) #[true, true, false, false] rfl rfl (by kernel_rfl) (by decide) (fun K hK => ?_)
      have S0 := Aside0.mk (S.out.drew)
      refine goes_ Try.func71 (by kernel_rfl) rfl #[] (by rfl) rfl rfl (by simp only [List.map_toArray, List.map_cons, List.map_nil] <;> rfl) ?_
      with_reducible refine (impl_prime.calls _).mono ?_
      rintro e w3 ⟨rfl, hb⟩
      refine ⟨_, rfl, ?_⟩
      have S1 := Aside0.mk (S0.out.step hb)
      clear hb
      refine hK.out _ _ (S1.out) (fun hHeld => ?_)
      clear hK K
      refine norm_ (a' := ?_) ?_ ?_
      rotate_left
      · show Act.put _ (some 4) _ = _
        simp only [Act.put, List.setIfInBounds_toArray, List.set_cons_zero, List.set_cons_succ, i64_w, i32_w]
        rfl
      refine one_ (i := 2) (N := some 5) #[true, true, true, false] rfl rfl (by kernel_rfl) (by decide) (fun K hK => ?_)
      refine goes_ Try.func63 (by kernel_rfl) rfl #[.agg (arr .u64 (num y)), .agg (arr .u64 (num PP))] (by rfl) rfl rfl (by simp only [List.map_toArray, List.map_cons, List.map_nil] <;> rfl) ?_
      with_reducible refine (HL.out _).mono ?_
      rintro e w3 ⟨rfl, hb⟩
      refine ⟨_, rfl, ?_⟩
      have S2 := Aside0.mk (S1.out.step hb)
      clear hb
      refine hK.out _ _ (S2.out) (fun hHeld => ?_)
      clear hK K
      refine norm_ (a' := ?_) ?_ ?_
      rotate_left
      · show Act.put _ (some 5) _ = _
        simp only [Act.put, List.setIfInBounds_toArray, List.set_cons_zero, List.set_cons_succ, i64_w, i32_w]
        rfl
      refine pure_ (i := 3) (N := some 6) (v := ?_) (a' := ?_) #[true, true, true, true] rfl rfl (by kernel_rfl) (fun _ _ _ h => h) (Or.inl ⟨by rfl, ?_⟩) ?_ ?_
      rotate_left
      · intro w'
        go_simp
        with_reducible rfl
      rotate_left
      · simp only [Act.put, List.setIfInBounds_toArray, List.set_cons_zero, List.set_cons_succ, i64_w, i32_w]
        rfl
      refine done_ (by kernel_rfl) ?_
      go_wp2
      refine start_ (n := 7) (S := fun w' => St w [⟨52, .u64, num y⟩, ⟨34, .u64, z4⟩] w') (ds := [6]) #[false, false, false, false, false, false, false] (by kernel_rfl) rfl rfl (S2.out.drew) (fun hHeld => ?_)
      refine take_ (i := 0) (N := some 8) (v := ?_) (a' := ?_) #[true, false, false, false, false, false, false] rfl rfl (by kernel_rfl) (fun _ _ _ h => h) (Or.inl ⟨by rfl, ?_⟩) hHeld ?_ ?_
      rotate_left
      · intro w' s0
        refine (run_ld 52 (.tmp 1) (by rfl) w.heap.size (by rfl) (s0.blk 0 rfl) Try.underlying52 (m := 4) (by kernel_rfl) (num_length _)).trans ?_
        with_reducible rfl
      rotate_left
      · simp only [Act.put, List.setIfInBounds_toArray, List.set_cons_zero, List.set_cons_succ, i64_w, i32_w]
        rfl
      refine one_ (i := 1) (N := some 9) #[true, true, false, false, false, false, false] rfl rfl (by kernel_rfl) (by decide) (fun K hK => ?_)
      have S3 := Aside0.mk (S2.out.drew)
      refine goes_ Try.func71 (by kernel_rfl) rfl #[] (by rfl) rfl rfl (by simp only [List.map_toArray, List.map_cons, List.map_nil] <;> rfl) ?_
      with_reducible refine (impl_prime.calls _).mono ?_
      rintro e w3 ⟨rfl, hb⟩
      refine ⟨_, rfl, ?_⟩
      have S4 := Aside0.mk (S3.out.step hb)
      clear hb
      refine hK.out _ _ (S4.out) (fun hHeld => ?_)
      clear hK K
      refine norm_ (a' := ?_) ?_ ?_
      rotate_left
      · show Act.put _ (some 9) _ = _
        simp only [Act.put, List.setIfInBounds_toArray, List.set_cons_zero, List.set_cons_succ, i64_w, i32_w]
        rfl
      refine one_ (i := 2) (N := some 10) #[true, true, true, false, false, false, false] rfl rfl (by kernel_rfl) (by decide) (fun K hK => ?_)
      refine goes_ Try.func68 (by kernel_rfl) rfl #[.agg (arr .u64 (num y)), .agg (arr .u64 (num PP))] (by rfl) rfl rfl (by simp only [List.map_toArray, List.map_cons, List.map_nil] <;> rfl) ?_
      with_reducible refine (HM.out _).mono ?_
      rintro e w3 ⟨rfl, hb⟩
      refine ⟨_, rfl, ?_⟩
      have S5 := Aside0.mk (S4.out.step hb)
      clear hb
      refine hK.out _ _ (S5.out) (fun hHeld => ?_)
      clear hK K
      refine norm_ (a' := ?_) ?_ ?_
      rotate_left
      · show Act.put _ (some 10) _ = _
        simp only [Act.put, List.setIfInBounds_toArray, List.set_cons_zero, List.set_cons_succ, i64_w, i32_w]
        rfl
      refine pure_ (i := 3) (N := some 7) (v := ?_) (a' := ?_) #[true, true, true, true, false, false, false] rfl rfl (by kernel_rfl) (fun _ _ _ h => h) (Or.inl ⟨by rfl, ?_⟩) ?_ ?_
      rotate_left
      · intro w'
        go_simp
        with_reducible rfl
      rotate_left
      · simp only [Act.put, List.setIfInBounds_toArray, List.set_cons_zero, List.set_cons_succ, i64_w, i32_w]
        rfl
      refine pure_ (i := 4) (N := some 11) (v := ?_) (a' := ?_) #[true, true, true, true, true, false, false] rfl rfl (by kernel_rfl) (fun _ _ _ h => h) (Or.inl ⟨by rfl, ?_⟩) ?_ ?_
      rotate_left
      · intro w'
        go_simp
        with_reducible rfl
      rotate_left
      · simp only [Act.put, List.setIfInBounds_toArray, List.set_cons_zero, List.set_cons_succ, i64_w, i32_w]
        rfl
      refine pure_ (i := 5) (N := some 12) (v := ?_) (a' := ?_) #[true, true, true, true, true, true, false] rfl rfl (by kernel_rfl) (fun _ _ _ h => h) (Or.inl ⟨by rfl, ?_⟩) ?_ ?_
      rotate_left
      · intro w'
        go_simp
        with_reducible rfl
      rotate_left
      · simp only [Act.put, List.setIfInBounds_toArray, List.set_cons_zero, List.set_cons_succ, i64_w, i32_w]
        rfl
      refine last_ (i := 6) (N := none) #[true, true, true, true, true, true, true] rfl rfl (by kernel_rfl) (by decide) (fun K hK => ?_)
      refine st_step (by rfl) rfl 52 (.tmp 1) (.tmp 11) rfl w.heap.size rfl rfl (S5.out.blk 0 rfl) (m := 4) (by kernel_rfl) (num_length _) (by rw [num_length, num_length]) ?_
      intro w6 h1 h2 h3 h4
      have S6 := Aside0.mk (S5.out.row 0 rfl h1 h2 h3)
      clear h1 h2 h3 h4
      refine hK.out _ _ ?_
      clear hK K
      refine done_ (by kernel_rfl) ?_
      go_wp2
      go_roundg ((y - PP) / PP)
      case measure => have := FY.out; omega
      case rel => exact ⟨y - PP, FY.out.1, FY.out.2.1, by omega, S6⟩
set_option maxHeartbeats 1000000 in
set_option maxRecDepth 100000 in
theorem impl_small.calls (n : Nat) (w : World) (hn : n < 18446744073709551616) :
    Calls Try.prog 74 #[.int .u64 (n : Int)] w fun e w' => e = .returned (.agg (arr .u64 (num n))) ∧ Below w.heap.size w w' := by
  rw [← num_small n hn]
  clear hn
  go_enter Try.func74, Try.ntmps74
  go_wp2
  exact bodyPost_ret (results_cell_row Try.results74 _ _ w.heap.size 52 _ (0, 0) _ rfl (blk_new w _) Try.underlying52 rfl (by kernel_rfl)) rfl ⟨by rfl, below_alloc (Below.refl _ _) _⟩
set_option maxHeartbeats 1000000 in
set_option maxRecDepth 100000 in
theorem impl_wide_reduced.calls (W : Nat) (w : World) (hW : W < BB * BB) :
    Calls Try.prog 72 #[.agg (arr .u64 (wid W))] w fun e w' => e = .returned (.agg (arr .u64 (num (W % PP)))) ∧ Below w.heap.size w w' := by
  obtain ⟨H, hH⟩ : ∃ H, H = W / BB := ⟨_, rfl⟩
  obtain ⟨X, hX⟩ : ∃ X, X = H * 38 := ⟨_, rfl⟩
  obtain ⟨q, hq⟩ : ∃ q, q = X / BB := ⟨_, rfl⟩
  obtain ⟨c1, hc1⟩ : ∃ c1, c1 = (W % BB + X % BB) / BB := ⟨_, rfl⟩
  obtain ⟨l1, hl1⟩ : ∃ l1, l1 = (W % BB + X % BB) % BB := ⟨_, rfl⟩
  obtain ⟨m, hm⟩ : ∃ m, m = (q + c1) * 38 := ⟨_, rfl⟩
  obtain ⟨c2, hc2⟩ : ∃ c2, c2 = (l1 + m) / BB := ⟨_, rfl⟩
  obtain ⟨l2, hl2⟩ : ∃ l2, l2 = (l1 + m) % BB := ⟨_, rfl⟩
  obtain ⟨m2, hm2⟩ : ∃ m2, m2 = 38 * c2 := ⟨_, rfl⟩
  have hBp : 0 < BB := by decide
  have rr := red_ranges W hW
  rw [← hH, ← hX, ← hq, ← hc1] at rr
  obtain ⟨rH, rq, rc1⟩ := rr
  have rm : m ≤ 2000 := by rw [hm]; omega
  have rl1 : l1 < BB := by rw [hl1]; exact Nat.mod_lt _ hBp
  have rl2 : l2 < BB := by rw [hl2]; exact Nat.mod_lt _ hBp
  have rmB : m < BB := Nat.lt_of_le_of_lt rm (by decide)
  have rc2 : c2 < 2 := by
    rw [hc2, Nat.div_lt_iff_lt_mul hBp]; omega
  have HSUM := red_sum (W % BB) H q c1 c2 l1 l2 (X % BB) m (by rw [← hX, hq]; have := Nat.div_add_mod X BB; omega) (by rw [hl1, hc1]; have := Nat.div_add_mod (W % BB + X % BB) BB; omega) hm (by rw [hl2, hc2]; have := Nat.div_add_mod (l1 + m) BB; omega) rl1 rl2 rm
  rw [← hm2, hH, Nat.mod_add_div] at HSUM
  obtain ⟨hs1, hs2⟩ := HSUM
  have HS38 := Aside0.mk (fun W' => (show Calls Try.prog 74 #[.int .u64 38] W' _ from impl_small.calls 38 W' (by decide)))
  have HT := Aside0.mk (fun W' => impl_number_times.calls H 38 W' rH (by decide))
  rw [← hX] at HT
  have HP1 := Aside0.mk (fun W' => impl_number_plus.calls W X W')
  rw [b4, ← hc1, ← num_mod (W + X), Nat.add_mod, ← hl1] at HP1
  have HS1 := Aside0.mk (fun W' => impl_small.calls m W' (by omega))
  have HP2 := Aside0.mk (fun W' => impl_number_plus.calls l1 m W')
  rw [b4, Nat.mod_eq_of_lt rl1, Nat.mod_eq_of_lt rmB, ← hc2, ← num_mod (l1 + m), ← hl2] at HP2
  have HS2 := Aside0.mk (fun W' => impl_small.calls m2 W' (by omega))
  obtain ⟨cv, HP3⟩ : ∃ cv : Value, Aside0 (∀ W', Calls Try.prog 67 #[.agg (arr .u64 (num l2)), .agg (arr .u64 (num m2))] W' fun e w' => e = .returned (.tuple #[.agg (arr .u64 (num (l2 + m2))), cv]) ∧ Below W'.heap.size W' w') := ⟨_, ⟨fun W' => impl_number_plus.calls l2 m2 W'⟩⟩
  have HQ := Aside0.mk (fun W' => impl_number_reduced.calls (l2 + m2) W')
  rw [Nat.mod_eq_of_lt hs1, hs2] at HQ
  have HW4 := Aside0.mk (show num (W / P64 ^ 4) = num H by rw [b4, hH])
  have hwt := wid_top X (by rw [← hq]; exact rq)
  rw [← hq] at hwt
  have HWT := Aside0.mk hwt
  have i1 : (q : Int) + (c1 : Int) = ((q + c1 : Nat) : Int) := by omega
  have i2 : ((q + c1 : Nat) : Int) * 38 = (m : Int) := by rw [hm]; omega
  have i3 : 38 * (c2 : Int) = (m2 : Int) := by rw [hm2]; omega
  have i4 : (m2 : Int) < 100 := by omega
  have i7 : IntKind.u64.wrap (m2 : Int) = (m2 : Int) := by rw [IntKind.wrap_u64]; omega
  have i5 : (m : Int) ≤ 2000 := by omega
  have i6 : ((q + c1 : Nat) : Int) < 100 := by omega
  generalize q + c1 = qc at *
  generalize W % PP = r at *
  clear hwt hs1 hs2 rc2 rmB rl2 rl1 rm rH rq rc1 hBp hm2 hl2 hc2 hm hl1 hc1 hq hX hH hW
  have S := Aside0.mk (((St.start w).push rfl 81 .u64 (wid W)).push (World.size_alloc ..) 34 .u64 z4)
  have hat := fun (a : Option Addr) (c : Nat) W => run_arrayAt (P := Try.prog) W 52 32 4 a 4 c Try.underlying52 (by decide)
  go_enter Try.func72, Try.ntmps72
  go_wp2
  refine abs_world (bs := [⟨81, .u64, wid W⟩, ⟨34, .u64, z4⟩]) S.out ?_
  clear S
  intro W0 hS
  have T := Aside0.mk hS.drew
  clear hS
  refine start_ (n := 10) (S := fun w' => St w [⟨81, .u64, wid W⟩, ⟨34, .u64, z4⟩] w') (ds := []) #[false, false, false, false, false, false, false, false, false, false] (by kernel_rfl) rfl rfl (T.out) (fun hHeld => ?_)
  refine pure_ (i := 0) (N := some 8) (v := ?_) (a' := ?_) #[true, false, false, false, false, false, false, false, false, false] rfl rfl (by kernel_rfl) (fun _ _ _ h => h) (Or.inl ⟨by rfl, ?_⟩) ?_ ?_
  rotate_left
  · intro w'; go_simp; with_reducible rfl
  rotate_left
  · simp only [Act.put, OpenRow.s1, OpenRow.s2, OpenRow.s3, i64_w, i32_w]; rfl
  refine pure_ (i := 1) (N := some 9) (v := ?_) (a' := ?_) #[true, true, false, false, false, false, false, false, false, false] rfl rfl (by kernel_rfl) (fun _ _ _ h => h) (Or.inl ⟨by rfl, ?_⟩) ?_ ?_
  rotate_left
  · intro w'; go_simp; with_reducible rfl
  rotate_left
  · simp only [Act.put, OpenRow.s1, OpenRow.s2, OpenRow.s3, i64_w, i32_w]; rfl
  refine pure_ (i := 3) (N := some 11) (v := ?_) (a' := ?_) #[true, true, false, true, false, false, false, false, false, false] rfl rfl (by kernel_rfl) (fun _ _ _ h => h) (Or.inl ⟨by rfl, ?_⟩) ?_ ?_
  rotate_left
  · intro w'; go_simp; with_reducible rfl
  rotate_left
  · simp only [Act.put, OpenRow.s1, OpenRow.s2, OpenRow.s3, i64_w, i32_w]; rfl
  refine pure_ (i := 4) (N := some 12) (v := ?_) (a' := ?_) #[true, true, false, true, true, false, false, false, false, false] rfl rfl (by kernel_rfl) (fun _ _ _ h => h) (Or.inl ⟨by rfl, ?_⟩) ?_ ?_
  rotate_left
  · intro w'; go_simp; with_reducible rfl
  rotate_left
  · simp only [Act.put, OpenRow.s1, OpenRow.s2, OpenRow.s3, i64_w, i32_w]; rfl
  refine take_ (i := 2) (N := some 10) (v := ?_) (a' := ?_) #[true, true, true, true, true, false, false, false, false, false] rfl rfl (by kernel_rfl) (fun _ _ _ h => h) (Or.inl ⟨by rfl, ?_⟩) hHeld ?_ ?_
  rotate_left
  · intro w' s0
    refine (run_ldm 52 (.tmp 9) (by rfl) w.heap.size 0 (by rfl) (num W) (s0.blk 0 rfl) (wid_low W) Try.underlying52 (m := 4) (by kernel_rfl) (num_length _)).trans ?_; with_reducible rfl
  rotate_left
  · simp only [Act.put, OpenRow.s1, OpenRow.s2, OpenRow.s3, i64_w, i32_w]; rfl
  refine take_ (i := 5) (N := some 13) (v := ?_) (a' := ?_) #[true, true, true, true, true, true, false, false, false, false] rfl rfl (by kernel_rfl) (fun _ _ _ h => h) (Or.inl ⟨by rfl, ?_⟩) hHeld ?_ ?_
  rotate_left
  · intro w' s0
    refine (run_ldm 52 (.tmp 12) (by rfl) w.heap.size 4 (by rfl) (num (W / P64 ^ 4)) (s0.blk 0 rfl) (wid_high W) Try.underlying52 (m := 4) (by kernel_rfl) (num_length _)).trans ?_; with_reducible rfl
  rotate_left
  · simp only [Act.put, OpenRow.s1, OpenRow.s2, OpenRow.s3, i64_w, i32_w]; rfl
  refine join_ (σ := Nat × Nat) 2 #[true, true, true, true, true, true, true, true, false, false] (fun s_ => [(3, .pointer (some ⟨s_.1, 0, none⟩)), (4, .pointer (some ⟨s_.2, 0, none⟩))]) (fun s_ w' => (St w [⟨81, .u64, wid W⟩, ⟨34, .u64, z4⟩] w') ∧ w'.heap[s_.1]? = some (.cells (arr .u64 z4) 52 (0, 0)) ∧ w'.heap[s_.2]? = some (.cells (arr .u64 z4) 52 (0, 0)) ∧ w.heap.size + 2 ≤ s_.1 ∧ w.heap.size + 2 ≤ s_.2 ∧ s_.1 ≠ s_.2) ?_ ?_
  rotate_left
  · intro hCont
    refine two_ (i := 6) (j := 7) (Ni := some 3) (Nj := some 4) #[true, true, true, true, true, true, true, false, false, false] #[true, true, true, true, true, true, false, true, false, false] rfl rfl rfl rfl (by kernel_rfl) (by decide) (by decide) (fun K hK => ?_) (fun K hK => ?_)
    · skip
      refine value_ (w1 := ?_) (v := ?_) (by rfl) rfl ?_ ?_
      rotate_left 2
      · go_simp
        constructor
        · rfl
        · rfl
      have T_6 := Aside0.mk (T.out.alloc (.cells (arr .u64 z4) 52))
      have G6_6 := Aside0.mk (T.out.new (.cells (arr .u64 z4) 52))
      have E6 := Aside0.mk T.out.size
      refine hK.out _ _ (T_6.out) (fun hHeld => ?_)
      clear hK K
      refine norm_ (a' := ?_) ?_ ?_
      rotate_left
      · show Act.put _ (some 3) _ = _
        simp only [Act.put, OpenRow.s1, OpenRow.s2, OpenRow.s3, i64_w, i32_w]
        rfl
      refine one_ (i := 7) (N := some 4) #[true, true, true, true, true, true, true, true, false, false] rfl rfl (by kernel_rfl) (by decide) (fun K hK => ?_)
      refine value_ (w1 := ?_) (v := ?_) (by rfl) rfl ?_ ?_
      rotate_left 2
      · go_simp
        constructor
        · rfl
        · rfl
      have T_6_7 := Aside0.mk (T_6.out.alloc (.cells (arr .u64 z4) 52))
      have G7_6_7 := Aside0.mk (T_6.out.new (.cells (arr .u64 z4) 52))
      have E7 := Aside0.mk T_6.out.size
      have N7 := Aside0.mk (ne_of_blk G6_6.out)
      have G6_6_7 := Aside0.mk (blk_alloc G6_6.out (.cells (arr .u64 z4) 52))
      (try simp only [World.size_alloc] at G7_6_7 E7 N7)
      refine hK.out _ _ (T_6_7.out) (fun hHeld => ?_)
      clear hK K
      refine norm_ (a' := ?_) ?_ ?_
      rotate_left
      · show Act.put _ (some 4) _ = _
        simp only [Act.put, OpenRow.s1, OpenRow.s2, OpenRow.s3, i64_w, i32_w]
        rfl
      exact norm_ (by simp only [putAll, Act.put, List.setIfInBounds_toArray, List.set_cons_zero, List.set_cons_succ] <;> rfl) (hCont (_, _) _ ⟨T_6_7.out, G6_6_7.out, G7_6_7.out, E6.out, E7.out, N7.out⟩)
    · skip
      refine value_ (w1 := ?_) (v := ?_) (by rfl) rfl ?_ ?_
      rotate_left 2
      · go_simp
        constructor
        · rfl
        · rfl
      have T_7 := Aside0.mk (T.out.alloc (.cells (arr .u64 z4) 52))
      have G7_7 := Aside0.mk (T.out.new (.cells (arr .u64 z4) 52))
      have E7 := Aside0.mk T.out.size
      refine hK.out _ _ (T_7.out) (fun hHeld => ?_)
      clear hK K
      refine norm_ (a' := ?_) ?_ ?_
      rotate_left
      · show Act.put _ (some 4) _ = _
        simp only [Act.put, OpenRow.s1, OpenRow.s2, OpenRow.s3, i64_w, i32_w]
        rfl
      refine one_ (i := 6) (N := some 3) #[true, true, true, true, true, true, true, true, false, false] rfl rfl (by kernel_rfl) (by decide) (fun K hK => ?_)
      refine value_ (w1 := ?_) (v := ?_) (by rfl) rfl ?_ ?_
      rotate_left 2
      · go_simp
        constructor
        · rfl
        · rfl
      have T_7_6 := Aside0.mk (T_7.out.alloc (.cells (arr .u64 z4) 52))
      have G6_7_6 := Aside0.mk (T_7.out.new (.cells (arr .u64 z4) 52))
      have E6 := Aside0.mk T_7.out.size
      have N6 := Aside0.mk (ne_of_blk G7_7.out)
      have G7_7_6 := Aside0.mk (blk_alloc G7_7.out (.cells (arr .u64 z4) 52))
      (try simp only [World.size_alloc] at G6_7_6 E6 N6)
      refine hK.out _ _ (T_7_6.out) (fun hHeld => ?_)
      clear hK K
      refine norm_ (a' := ?_) ?_ ?_
      rotate_left
      · show Act.put _ (some 3) _ = _
        simp only [Act.put, OpenRow.s1, OpenRow.s2, OpenRow.s3, i64_w, i32_w]
        rfl
      exact norm_ (by simp only [putAll, Act.put, List.setIfInBounds_toArray, List.set_cons_zero, List.set_cons_succ] <;> rfl) (hCont (_, _) _ ⟨T_7_6.out, G6_7_6.out, G7_7_6.out, E6.out, E7.out, N6.out.symm⟩)
  rintro ⟨g6_, g7_⟩ w9 ⟨hHeld, hG6, hG7, hE6, hE7, hN⟩
  have T9 := Aside0.mk hHeld
  have GG6 := Aside0.mk hG6
  have GG7 := Aside0.mk hG7
  have EE6 := Aside0.mk hE6
  have EE7 := Aside0.mk hE7
  have NN := Aside0.mk hN
  clear hG6 hG7 hE6 hE7 hN
  refine norm_ (a' := ?_) ?_ ?_
  rotate_left
  · simp only [putAll, Act.put, List.setIfInBounds_toArray, List.set_cons_zero, List.set_cons_succ]
    rfl
  refine one_ (i := 8) (N := none) #[true, true, true, true, true, true, true, true, true, false] rfl rfl (by kernel_rfl) (by decide) (fun K hK => ?_)
  refine st_step (by rfl) rfl 52 (.tmp 3) (.tmp 10) rfl g6_ rfl rfl GG6.out (m := 4) (by kernel_rfl) (num_length _) (by first | rfl | (rw [num_length]; rfl) | rw [num_length, num_length]) ?_
  intro w6 h1 h2 h3 h4
  have G3 := Aside0.mk h1
  have T10 := Aside0.mk (St.other T9.out h2 h3 EE6.out)
  have G4 := Aside0.mk ((h2 _ NN.out.symm).trans GG7.out)
  clear h1 h2 h3 h4
  refine hK.out _ _ (T10.out) (fun hHeld => ?_)
  clear hK K
  refine one_ (i := 9) (N := none) #[true, true, true, true, true, true, true, true, true, true] rfl rfl (by kernel_rfl) (by decide) (fun K hK => ?_)
  refine st_step (by rfl) rfl 52 (.tmp 4) (.tmp 13) rfl g7_ rfl rfl G4.out (m := 4) (by kernel_rfl) (num_length _) (by first | rfl | (rw [num_length]; rfl) | rw [num_length, num_length]) ?_
  intro w6 h1 h2 h3 h4
  have G5 := Aside0.mk h1
  have T11 := Aside0.mk (St.other T10.out h2 h3 EE7.out)
  have G6 := Aside0.mk ((h2 _ NN.out).trans G3.out)
  clear h1 h2 h3 h4
  refine hK.out _ _ (T11.out) (fun hHeld => ?_)
  clear hK K
  refine done_ (by kernel_rfl) ?_
  rw [HW4.out] at G5 ⊢
  have EL := Aside0.mk EE6.out
  have U := Aside0.mk T11.out.drew
  have A := Aside0.mk (blk_drew G6.out)
  have B := Aside0.mk (blk_drew G5.out)
  clear T T9 T10 T11 G3 G4 G5 G6 GG6 GG7 EE6 EE7 NN HW4
  go_wp2
  refine start_ (n := 5) (S := fun w' => St w [⟨81, .u64, wid W⟩, ⟨34, .u64, z4⟩] w' ∧ w'.heap[g6_]? = some (.cells (arr .u64 (num (W))) 52 (0, 0)) ∧ w'.heap[g7_]? = some (.cells (arr .u64 (num H)) 52 (0, 0))) (ds := []) #[false, false, false, false, false] (by kernel_rfl) rfl rfl ⟨U.out, A.out, B.out⟩ (fun hHeld => ?_)
  refine take_ (i := 0) (N := some 14) (v := ?_) (a' := ?_) #[true, false, false, false, false] rfl rfl (by kernel_rfl) (fun _ _ _ h => h) (Or.inl ⟨by rfl, ?_⟩) hHeld ?_ ?_
  rotate_left
  · rintro w' ⟨s0, s1, s2⟩
    refine (run_ld 52 (.tmp 4) (by rfl) g7_ (by rfl) s2 Try.underlying52 (m := 4) (by kernel_rfl) (num_length _)).trans ?_; with_reducible rfl
  rotate_left
  · simp only [Act.put, OpenRow.s1, OpenRow.s2, OpenRow.s3, i64_w, i32_w]; rfl
  refine join_ (σ := Nat) 1 #[true, true, true, true, false] (fun s_ => [(15, .agg (arr .u64 (num 38))), (16, .agg (arr .u64 (wid X))), (5, .pointer (some ⟨s_, 0, none⟩))]) (fun s_ w' => (St w [⟨81, .u64, wid W⟩, ⟨34, .u64, z4⟩] w') ∧ (w'.heap[g6_]? = some (.cells (arr .u64 (num (W))) 52 (0, 0))) ∧ (w'.heap[g7_]? = some (.cells (arr .u64 (num H)) 52 (0, 0))) ∧ w'.heap[s_]? = some (.cells (arr .u64 z8) 81 (0, 0)) ∧ w.heap.size + 2 ≤ s_ ∧ g6_ ≠ s_ ∧ g7_ ≠ s_) ?_ ?_
  rotate_left
  · intro hCont
    refine two_ (i := 1) (j := 3) (Ni := some 15) (Nj := some 5) #[true, true, false, false, false] #[true, false, false, true, false] rfl rfl rfl rfl (by kernel_rfl) (by decide) (by decide) (fun K hK => ?_) (fun K hK => ?_)
    · skip
      refine goes_ Try.func74 (by kernel_rfl) rfl #[.int .u64 38] (by rfl) rfl rfl (by simp only [List.map_toArray, List.map_cons, List.map_nil] <;> rfl) ?_
      with_reducible refine (HS38.out _).mono ?_
      rintro e w3 ⟨rfl, hb⟩
      refine ⟨_, rfl, ?_⟩
      have U_1 := Aside0.mk (U.out.step hb)
      have A_1 := Aside0.mk (blk_below A.out hb)
      have B_1 := Aside0.mk (blk_below B.out hb)
      clear hb
      refine hK.out _ _ ⟨U_1.out, A_1.out, B_1.out⟩ (fun hHeld => ?_)
      clear hK K
      refine norm_ (a' := ?_) ?_ ?_
      rotate_left
      · show Act.put _ (some 15) _ = _
        simp only [Act.put, OpenRow.s1, OpenRow.s2, OpenRow.s3, i64_w, i32_w]
        rfl
      refine two_ (i := 2) (j := 3) (Ni := some 16) (Nj := some 5) #[true, true, true, false, false] #[true, true, false, true, false] rfl rfl rfl rfl (by kernel_rfl) (by decide) (by decide) (fun K hK => ?_) (fun K hK => ?_)
      · skip
        refine goes_ Try.func65 (by kernel_rfl) rfl #[.agg (arr .u64 (num H)), .agg (arr .u64 (num 38))] (by rfl) rfl rfl (by simp only [List.map_toArray, List.map_cons, List.map_nil] <;> rfl) ?_
        with_reducible refine (HT.out _).mono ?_
        rintro e w3 ⟨rfl, hb⟩
        refine ⟨_, rfl, ?_⟩
        have U_1_2 := Aside0.mk (U_1.out.step hb)
        have A_1_2 := Aside0.mk (blk_below A_1.out hb)
        have B_1_2 := Aside0.mk (blk_below B_1.out hb)
        clear hb
        refine hK.out _ _ ⟨U_1_2.out, A_1_2.out, B_1_2.out⟩ (fun hHeld => ?_)
        clear hK K
        refine norm_ (a' := ?_) ?_ ?_
        rotate_left
        · show Act.put _ (some 16) _ = _
          simp only [Act.put, OpenRow.s1, OpenRow.s2, OpenRow.s3, i64_w, i32_w]
          rfl
        refine one_ (i := 3) (N := some 5) #[true, true, true, true, false] rfl rfl (by kernel_rfl) (by decide) (fun K hK => ?_)
        refine value_ (w1 := ?_) (v := ?_) (by rfl) rfl ?_ ?_
        rotate_left 2
        · go_simp
          constructor
          · rfl
          · rfl
        have U_1_2_3 := Aside0.mk (U_1_2.out.alloc (.cells (arr .u64 z8) 81))
        have A_1_2_3 := Aside0.mk (blk_alloc A_1_2.out (.cells (arr .u64 z8) 81))
        have B_1_2_3 := Aside0.mk (blk_alloc B_1_2.out (.cells (arr .u64 z8) 81))
        have G3_1_2_3 := Aside0.mk (U_1_2.out.new (.cells (arr .u64 z8) 81))
        have E3 := Aside0.mk U_1_2.out.size
        have M3_0 := Aside0.mk (ne_of_blk A_1_2.out)
        have M3_1 := Aside0.mk (ne_of_blk B_1_2.out)
        refine hK.out _ _ ⟨U_1_2_3.out, A_1_2_3.out, B_1_2_3.out⟩ (fun hHeld => ?_)
        clear hK K
        refine norm_ (a' := ?_) ?_ ?_
        rotate_left
        · show Act.put _ (some 5) _ = _
          simp only [Act.put, OpenRow.s1, OpenRow.s2, OpenRow.s3, i64_w, i32_w]
          rfl
        exact norm_ (by simp only [putAll, Act.put, List.setIfInBounds_toArray, List.set_cons_zero, List.set_cons_succ] <;> rfl) (hCont _ _ ⟨U_1_2_3.out, A_1_2_3.out, B_1_2_3.out, G3_1_2_3.out, E3.out, M3_0.out, M3_1.out⟩)
      · skip
        refine value_ (w1 := ?_) (v := ?_) (by rfl) rfl ?_ ?_
        rotate_left 2
        · go_simp
          constructor
          · rfl
          · rfl
        have U_1_3 := Aside0.mk (U_1.out.alloc (.cells (arr .u64 z8) 81))
        have A_1_3 := Aside0.mk (blk_alloc A_1.out (.cells (arr .u64 z8) 81))
        have B_1_3 := Aside0.mk (blk_alloc B_1.out (.cells (arr .u64 z8) 81))
        have G3_1_3 := Aside0.mk (U_1.out.new (.cells (arr .u64 z8) 81))
        have E3 := Aside0.mk U_1.out.size
        have M3_0 := Aside0.mk (ne_of_blk A_1.out)
        have M3_1 := Aside0.mk (ne_of_blk B_1.out)
        refine hK.out _ _ ⟨U_1_3.out, A_1_3.out, B_1_3.out⟩ (fun hHeld => ?_)
        clear hK K
        refine norm_ (a' := ?_) ?_ ?_
        rotate_left
        · show Act.put _ (some 5) _ = _
          simp only [Act.put, OpenRow.s1, OpenRow.s2, OpenRow.s3, i64_w, i32_w]
          rfl
        refine one_ (i := 2) (N := some 16) #[true, true, true, true, false] rfl rfl (by kernel_rfl) (by decide) (fun K hK => ?_)
        refine goes_ Try.func65 (by kernel_rfl) rfl #[.agg (arr .u64 (num H)), .agg (arr .u64 (num 38))] (by rfl) rfl rfl (by simp only [List.map_toArray, List.map_cons, List.map_nil] <;> rfl) ?_
        with_reducible refine (HT.out _).mono ?_
        rintro e w3 ⟨rfl, hb⟩
        refine ⟨_, rfl, ?_⟩
        have U_1_3_2 := Aside0.mk (U_1_3.out.step hb)
        have A_1_3_2 := Aside0.mk (blk_below A_1_3.out hb)
        have B_1_3_2 := Aside0.mk (blk_below B_1_3.out hb)
        have G3_1_3_2 := Aside0.mk (blk_below G3_1_3.out hb)
        clear hb
        refine hK.out _ _ ⟨U_1_3_2.out, A_1_3_2.out, B_1_3_2.out⟩ (fun hHeld => ?_)
        clear hK K
        refine norm_ (a' := ?_) ?_ ?_
        rotate_left
        · show Act.put _ (some 16) _ = _
          simp only [Act.put, OpenRow.s1, OpenRow.s2, OpenRow.s3, i64_w, i32_w]
          rfl
        exact norm_ (by simp only [putAll, Act.put, List.setIfInBounds_toArray, List.set_cons_zero, List.set_cons_succ] <;> rfl) (hCont _ _ ⟨U_1_3_2.out, A_1_3_2.out, B_1_3_2.out, G3_1_3_2.out, E3.out, M3_0.out, M3_1.out⟩)
    · skip
      refine value_ (w1 := ?_) (v := ?_) (by rfl) rfl ?_ ?_
      rotate_left 2
      · go_simp
        constructor
        · rfl
        · rfl
      have U_3 := Aside0.mk (U.out.alloc (.cells (arr .u64 z8) 81))
      have A_3 := Aside0.mk (blk_alloc A.out (.cells (arr .u64 z8) 81))
      have B_3 := Aside0.mk (blk_alloc B.out (.cells (arr .u64 z8) 81))
      have G3_3 := Aside0.mk (U.out.new (.cells (arr .u64 z8) 81))
      have E3 := Aside0.mk U.out.size
      have M3_0 := Aside0.mk (ne_of_blk A.out)
      have M3_1 := Aside0.mk (ne_of_blk B.out)
      refine hK.out _ _ ⟨U_3.out, A_3.out, B_3.out⟩ (fun hHeld => ?_)
      clear hK K
      refine norm_ (a' := ?_) ?_ ?_
      rotate_left
      · show Act.put _ (some 5) _ = _
        simp only [Act.put, OpenRow.s1, OpenRow.s2, OpenRow.s3, i64_w, i32_w]
        rfl
      refine one_ (i := 1) (N := some 15) #[true, true, false, true, false] rfl rfl (by kernel_rfl) (by decide) (fun K hK => ?_)
      refine goes_ Try.func74 (by kernel_rfl) rfl #[.int .u64 38] (by rfl) rfl rfl (by simp only [List.map_toArray, List.map_cons, List.map_nil] <;> rfl) ?_
      with_reducible refine (HS38.out _).mono ?_
      rintro e w3 ⟨rfl, hb⟩
      refine ⟨_, rfl, ?_⟩
      have U_3_1 := Aside0.mk (U_3.out.step hb)
      have A_3_1 := Aside0.mk (blk_below A_3.out hb)
      have B_3_1 := Aside0.mk (blk_below B_3.out hb)
      have G3_3_1 := Aside0.mk (blk_below G3_3.out hb)
      clear hb
      refine hK.out _ _ ⟨U_3_1.out, A_3_1.out, B_3_1.out⟩ (fun hHeld => ?_)
      clear hK K
      refine norm_ (a' := ?_) ?_ ?_
      rotate_left
      · show Act.put _ (some 15) _ = _
        simp only [Act.put, OpenRow.s1, OpenRow.s2, OpenRow.s3, i64_w, i32_w]
        rfl
      refine one_ (i := 2) (N := some 16) #[true, true, true, true, false] rfl rfl (by kernel_rfl) (by decide) (fun K hK => ?_)
      refine goes_ Try.func65 (by kernel_rfl) rfl #[.agg (arr .u64 (num H)), .agg (arr .u64 (num 38))] (by rfl) rfl rfl (by simp only [List.map_toArray, List.map_cons, List.map_nil] <;> rfl) ?_
      with_reducible refine (HT.out _).mono ?_
      rintro e w3 ⟨rfl, hb⟩
      refine ⟨_, rfl, ?_⟩
      have U_3_1_2 := Aside0.mk (U_3_1.out.step hb)
      have A_3_1_2 := Aside0.mk (blk_below A_3_1.out hb)
      have B_3_1_2 := Aside0.mk (blk_below B_3_1.out hb)
      have G3_3_1_2 := Aside0.mk (blk_below G3_3_1.out hb)
      clear hb
      refine hK.out _ _ ⟨U_3_1_2.out, A_3_1_2.out, B_3_1_2.out⟩ (fun hHeld => ?_)
      clear hK K
      refine norm_ (a' := ?_) ?_ ?_
      rotate_left
      · show Act.put _ (some 16) _ = _
        simp only [Act.put, OpenRow.s1, OpenRow.s2, OpenRow.s3, i64_w, i32_w]
        rfl
      exact norm_ (by simp only [putAll, Act.put, List.setIfInBounds_toArray, List.set_cons_zero, List.set_cons_succ] <;> rfl) (hCont _ _ ⟨U_3_1_2.out, A_3_1_2.out, B_3_1_2.out, G3_3_1_2.out, E3.out, M3_0.out, M3_1.out⟩)
  rintro g3_ w9 ⟨hS0, hS1, hS2, hG3, hE3, hM3_0, hM3_1⟩
  have T9 := Aside0.mk hS0
  have Z9_1 := Aside0.mk hS1
  have Z9_2 := Aside0.mk hS2
  have GG3 := Aside0.mk hG3
  have EE3 := Aside0.mk hE3
  have MM3_0 := Aside0.mk hM3_0
  have MM3_1 := Aside0.mk hM3_1
  have hHeld := (And.intro hS0 (And.intro hS1 hS2))
  clear hG3 hE3 hM3_0 hM3_1
  refine norm_ (a' := ?_) ?_ ?_
  rotate_left
  · simp only [putAll, Act.put, List.setIfInBounds_toArray, List.set_cons_zero, List.set_cons_succ]
    rfl
  refine one_ (i := 4) (N := none) #[true, true, true, true, true] rfl rfl (by kernel_rfl) (by decide) (fun K hK => ?_)
  refine st_step (by rfl) rfl 81 (.tmp 5) (.tmp 16) rfl g3_ rfl rfl GG3.out (m := 8) (by kernel_rfl) (wid_length _) (by rw [wid_length]; rfl) ?_
  intro w6 h1 h2 h3 h4
  have D := Aside0.mk h1
  have V := Aside0.mk (St.other T9.out h2 h3 EE3.out)
  have A2 := Aside0.mk ((h2 _ MM3_0.out).trans Z9_1.out)
  have B2 := Aside0.mk ((h2 _ MM3_1.out).trans Z9_2.out)
  clear h1 h2 h3 h4
  refine hK.out _ _ ⟨V.out, A2.out, B2.out⟩ (fun hHeld => ?_)
  clear hK K
  refine done_ (by kernel_rfl) ?_
  have MM := Aside0.mk MM3_0.out
  have V0 := Aside0.mk V.out.drew
  have A0 := Aside0.mk (blk_drew A2.out)
  have D0 := Aside0.mk (blk_drew D.out)
  clear T9 Z9_1 Z9_2 GG3 EE3 MM3_0 MM3_1 V A2 B2 D U A B
  go_wp2
  refine start_ (n := 10) (S := fun w' => St w [⟨81, .u64, wid W⟩, ⟨34, .u64, z4⟩] w' ∧ w'.heap[g6_]? = some (.cells (arr .u64 (num (W))) 52 (0, 0)) ∧ w'.heap[g3_]? = some (.cells (arr .u64 (wid X)) 81 (0, 0))) (ds := [8]) #[false, false, false, false, false, false, false, false, false, false] (by kernel_rfl) rfl rfl ⟨V0.out, A0.out, D0.out⟩ (fun hHeld => ?_)
  refine pure_ (i := 1) (N := some 19) (v := ?_) (a' := ?_) #[false, true, false, false, false, false, false, false, false, false] rfl rfl (by kernel_rfl) (fun _ _ _ h => h) (Or.inl ⟨by rfl, ?_⟩) ?_ ?_
  rotate_left
  · intro w'; go_simp; with_reducible rfl
  rotate_left
  · simp only [Act.put, OpenRow.s1, OpenRow.s2, OpenRow.s3, i64_w, i32_w]; rfl
  refine pure_ (i := 2) (N := some 20) (v := ?_) (a' := ?_) #[false, true, true, false, false, false, false, false, false, false] rfl rfl (by kernel_rfl) (fun _ _ _ h => h) (Or.inl ⟨by rfl, ?_⟩) ?_ ?_
  rotate_left
  · intro w'; go_simp; with_reducible rfl
  rotate_left
  · simp only [Act.put, OpenRow.s1, OpenRow.s2, OpenRow.s3, i64_w, i32_w]; rfl
  refine take_ (i := 0) (N := some 18) (v := ?_) (a' := ?_) #[true, true, true, false, false, false, false, false, false, false] rfl rfl (by kernel_rfl) (fun _ _ _ h => h) (Or.inl ⟨by rfl, ?_⟩) hHeld ?_ ?_
  rotate_left
  · rintro w' ⟨s0, s1, s2⟩
    refine (run_ld 52 (.tmp 3) (by rfl) g6_ (by rfl) s1 Try.underlying52 (m := 4) (by kernel_rfl) (num_length _)).trans ?_; with_reducible rfl
  rotate_left
  · simp only [Act.put, OpenRow.s1, OpenRow.s2, OpenRow.s3, i64_w, i32_w]; rfl
  refine take_ (i := 3) (N := some 21) (v := ?_) (a' := ?_) #[true, true, true, true, false, false, false, false, false, false] rfl rfl (by kernel_rfl) (fun _ _ _ h => h) (Or.inl ⟨by rfl, ?_⟩) hHeld ?_ ?_
  rotate_left
  · rintro w' ⟨s0, s1, s2⟩
    refine (run_ldm 52 (.tmp 20) (by rfl) g3_ 0 (by rfl) (num X) s2 (wid_low X) Try.underlying52 (m := 4) (by kernel_rfl) (num_length _)).trans ?_; with_reducible rfl
  rotate_left
  · simp only [Act.put, OpenRow.s1, OpenRow.s2, OpenRow.s3, i64_w, i32_w]; rfl
  refine one_ (i := 4) (N := some 22) #[true, true, true, true, true, false, false, false, false, false] rfl rfl (by kernel_rfl) (by decide) (fun K hK => ?_)
  refine goes_ Try.func67 (by kernel_rfl) rfl #[.agg (arr .u64 (num W)), .agg (arr .u64 (num X))] (by rfl) rfl rfl (by simp only [List.map_toArray, List.map_cons, List.map_nil] <;> rfl) ?_
  with_reducible refine (HP1.out _).mono ?_
  rintro e w3 ⟨rfl, hb⟩
  refine ⟨_, rfl, ?_⟩
  have V1 := Aside0.mk (V0.out.step hb)
  have A1 := Aside0.mk (blk_below A0.out hb)
  have D1 := Aside0.mk (blk_below D0.out hb)
  clear hb
  refine hK.out _ _ ⟨V1.out, A1.out, D1.out⟩ (fun hHeld => ?_)
  clear hK K
  refine norm_ (a' := ?_) ?_ ?_
  rotate_left
  · show Act.put _ (some 22) _ = _
    simp only [Act.put, OpenRow.s1, OpenRow.s2, OpenRow.s3, i64_w, i32_w]
    rfl
  refine pure_ (i := 5) (N := some 17) (v := ?_) (a' := ?_) #[true, true, true, true, true, true, false, false, false, false] rfl rfl (by kernel_rfl) (fun _ _ _ h => h) (Or.inl ⟨by rfl, ?_⟩) ?_ ?_
  rotate_left
  · intro w'; go_simp; with_reducible rfl
  rotate_left
  · simp only [Act.put, OpenRow.s1, OpenRow.s2, OpenRow.s3, i64_w, i32_w]; rfl
  refine pure_ (i := 6) (N := some 23) (v := ?_) (a' := ?_) #[true, true, true, true, true, true, true, false, false, false] rfl rfl (by kernel_rfl) (fun _ _ _ h => h) (Or.inl ⟨by rfl, ?_⟩) ?_ ?_
  rotate_left
  · intro w'; go_simp; with_reducible rfl
  rotate_left
  · simp only [Act.put, OpenRow.s1, OpenRow.s2, OpenRow.s3, i64_w, i32_w]; rfl
  refine pure_ (i := 7) (N := some 24) (v := ?_) (a' := ?_) #[true, true, true, true, true, true, true, true, false, false] rfl rfl (by kernel_rfl) (fun _ _ _ h => h) (Or.inl ⟨by rfl, ?_⟩) ?_ ?_
  rotate_left
  · intro w'; go_simp; with_reducible rfl
  rotate_left
  · simp only [Act.put, OpenRow.s1, OpenRow.s2, OpenRow.s3, i64_w, i32_w]; rfl
  refine last_ (i := 8) (N := none) #[true, true, true, true, true, true, true, true, true, false] rfl rfl (by kernel_rfl) (by decide) (fun K hK => ?_)
  refine st_step (by rfl) rfl 52 (.tmp 3) (.tmp 23) rfl g6_ rfl rfl A1.out (m := 4) (by kernel_rfl) (num_length _) (by rw [num_length, num_length]) ?_
  intro w6 h1 h2 h3 h4
  have A2 := Aside0.mk h1
  have V2 := Aside0.mk (St.other V1.out h2 h3 EL.out)
  have D2 := Aside0.mk ((h2 _ MM.out.symm).trans D1.out)
  clear h1 h2 h3 h4
  refine hK.out _ _ ?_
  clear hK K
  refine pure_ (i := 9) (N := some 6) (v := ?_) (a' := ?_) #[true, true, true, true, true, true, true, true, true, true] rfl rfl (by kernel_rfl) (fun _ _ _ h => h) (Or.inl ⟨by rfl, ?_⟩) ?_ ?_
  rotate_left
  · intro w'; go_simp; with_reducible rfl
  rotate_left
  · simp only [Act.put, OpenRow.s1, OpenRow.s2, OpenRow.s3, i64_w, i32_w]; rfl
  refine done_ (by kernel_rfl) ?_
  have ct := blk_get D2.out 4 (by rw [wid_length]; omega)
  rw [HWT.out] at ct
  go_wp2
  have V3 := Aside0.mk V2.out.drew
  have A3 := Aside0.mk (blk_drew A2.out)
  have D3 := Aside0.mk (blk_drew D2.out)
  refine start_ (n := 9) (S := fun w' => St w [⟨81, .u64, wid W⟩, ⟨34, .u64, z4⟩] w' ∧ w'.heap[g6_]? = some (.cells (arr .u64 (num (l1))) 52 (0, 0)) ∧ w'.heap[g3_]? = some (.cells (arr .u64 (wid X)) 81 (0, 0))) (ds := [7]) #[false, false, false, false, false, false, false, false, false] (by kernel_rfl) rfl rfl ⟨V3.out, A3.out, D3.out⟩ (fun hHeld => ?_)
  refine pure_ (i := 1) (N := some 32) (v := ?_) (a' := ?_) #[false, true, false, false, false, false, false, false, false] rfl rfl (by kernel_rfl) (fun _ _ _ h => h) (Or.inl ⟨by rfl, ?_⟩) ?_ ?_
  rotate_left
  · intro w'; go_simp; with_reducible rfl
  rotate_left
  · simp only [Act.put, OpenRow.s1, OpenRow.s2, OpenRow.s3, i64_w, i32_w]; rfl
  refine take_ (i := 0) (N := some 31) (v := ?_) (a' := ?_) #[true, true, false, false, false, false, false, false, false] rfl rfl (by kernel_rfl) (fun _ _ _ h => h) (Or.inl ⟨by rfl, ?_⟩) hHeld ?_ ?_
  rotate_left
  · rintro w' ⟨s0, s1, s2⟩
    refine (run_ld 52 (.tmp 3) (by rfl) g6_ (by rfl) s1 Try.underlying52 (m := 4) (by kernel_rfl) (num_length _)).trans ?_; with_reducible rfl
  rotate_left
  · simp only [Act.put, OpenRow.s1, OpenRow.s2, OpenRow.s3, i64_w, i32_w]; rfl
  refine one_ (i := 2) (N := some 33) #[true, true, true, false, false, false, false, false, false] rfl rfl (by kernel_rfl) (by decide) (fun K hK => ?_)
  refine goes_ Try.func74 (by kernel_rfl) rfl #[.int .u64 (m : Int)] (by rfl) rfl rfl (by simp only [List.map_toArray, List.map_cons, List.map_nil] <;> rfl) ?_
  with_reducible refine (HS1.out _).mono ?_
  rintro e w3 ⟨rfl, hb⟩
  refine ⟨_, rfl, ?_⟩
  have V4 := Aside0.mk (V3.out.step hb)
  have A4 := Aside0.mk (blk_below A3.out hb)
  have D4 := Aside0.mk (blk_below D3.out hb)
  clear hb
  refine hK.out _ _ ⟨V4.out, A4.out, D4.out⟩ (fun hHeld => ?_)
  clear hK K
  refine norm_ (a' := ?_) ?_ ?_
  rotate_left
  · show Act.put _ (some 33) _ = _
    simp only [Act.put, OpenRow.s1, OpenRow.s2, OpenRow.s3, i64_w, i32_w]
    rfl
  refine one_ (i := 3) (N := some 34) #[true, true, true, true, false, false, false, false, false] rfl rfl (by kernel_rfl) (by decide) (fun K hK => ?_)
  refine goes_ Try.func67 (by kernel_rfl) rfl #[.agg (arr .u64 (num l1)), .agg (arr .u64 (num m))] (by rfl) rfl rfl (by simp only [List.map_toArray, List.map_cons, List.map_nil] <;> rfl) ?_
  with_reducible refine (HP2.out _).mono ?_
  rintro e w3 ⟨rfl, hb⟩
  refine ⟨_, rfl, ?_⟩
  have V5 := Aside0.mk (V4.out.step hb)
  have A5 := Aside0.mk (blk_below A4.out hb)
  have D5 := Aside0.mk (blk_below D4.out hb)
  clear hb
  refine hK.out _ _ ⟨V5.out, A5.out, D5.out⟩ (fun hHeld => ?_)
  clear hK K
  refine norm_ (a' := ?_) ?_ ?_
  rotate_left
  · show Act.put _ (some 34) _ = _
    simp only [Act.put, OpenRow.s1, OpenRow.s2, OpenRow.s3, i64_w, i32_w]
    rfl
  refine pure_ (i := 4) (N := some 30) (v := ?_) (a' := ?_) #[true, true, true, true, true, false, false, false, false] rfl rfl (by kernel_rfl) (fun _ _ _ h => h) (Or.inl ⟨by rfl, ?_⟩) ?_ ?_
  rotate_left
  · intro w'; go_simp; with_reducible rfl
  rotate_left
  · simp only [Act.put, OpenRow.s1, OpenRow.s2, OpenRow.s3, i64_w, i32_w]; rfl
  refine pure_ (i := 5) (N := some 35) (v := ?_) (a' := ?_) #[true, true, true, true, true, true, false, false, false] rfl rfl (by kernel_rfl) (fun _ _ _ h => h) (Or.inl ⟨by rfl, ?_⟩) ?_ ?_
  rotate_left
  · intro w'; go_simp; with_reducible rfl
  rotate_left
  · simp only [Act.put, OpenRow.s1, OpenRow.s2, OpenRow.s3, i64_w, i32_w]; rfl
  refine pure_ (i := 6) (N := some 36) (v := ?_) (a' := ?_) #[true, true, true, true, true, true, true, false, false] rfl rfl (by kernel_rfl) (fun _ _ _ h => h) (Or.inl ⟨by rfl, ?_⟩) ?_ ?_
  rotate_left
  · intro w'; go_simp; with_reducible rfl
  rotate_left
  · simp only [Act.put, OpenRow.s1, OpenRow.s2, OpenRow.s3, i64_w, i32_w]; rfl
  refine last_ (i := 7) (N := none) #[true, true, true, true, true, true, true, true, false] rfl rfl (by kernel_rfl) (by decide) (fun K hK => ?_)
  refine st_step (by rfl) rfl 52 (.tmp 3) (.tmp 35) rfl g6_ rfl rfl A5.out (m := 4) (by kernel_rfl) (num_length _) (by rw [num_length, num_length]) ?_
  intro w6 h1 h2 h3 h4
  have A6 := Aside0.mk h1
  have V6 := Aside0.mk (St.other V5.out h2 h3 EL.out)
  have D6 := Aside0.mk ((h2 _ MM.out.symm).trans D5.out)
  clear h1 h2 h3 h4
  refine hK.out _ _ ?_
  clear hK K
  refine pure_ (i := 8) (N := some 6) (v := ?_) (a' := ?_) #[true, true, true, true, true, true, true, true, true] rfl rfl (by kernel_rfl) (fun _ _ _ h => h) (Or.inl ⟨by rfl, ?_⟩) ?_ ?_
  rotate_left
  · intro w'; go_simp; with_reducible rfl
  rotate_left
  · simp only [Act.put, OpenRow.s1, OpenRow.s2, OpenRow.s3, i64_w, i32_w]; rfl
  refine done_ (by kernel_rfl) ?_
  go_wp2
  have V7 := Aside0.mk V6.out.drew
  have A7 := Aside0.mk (blk_drew A6.out)
  have D7 := Aside0.mk (blk_drew D6.out)
  refine start_ (n := 9) (S := fun w' => St w [⟨81, .u64, wid W⟩, ⟨34, .u64, z4⟩] w' ∧ w'.heap[g6_]? = some (.cells (arr .u64 (num (l2))) 52 (0, 0)) ∧ w'.heap[g3_]? = some (.cells (arr .u64 (wid X)) 81 (0, 0))) (ds := [8]) #[false, false, false, false, false, false, false, false, false] (by kernel_rfl) rfl rfl ⟨V7.out, A7.out, D7.out⟩ (fun hHeld => ?_)
  refine pure_ (i := 1) (N := some 39) (v := ?_) (a' := ?_) #[false, true, false, false, false, false, false, false, false] rfl rfl (by kernel_rfl) (fun _ _ _ h => h) (Or.inl ⟨by rfl, ?_⟩) ?_ ?_
  rotate_left
  · intro w'; go_simp; with_reducible rfl
  rotate_left
  · simp only [Act.put, OpenRow.s1, OpenRow.s2, OpenRow.s3, i64_w, i32_w]; rfl
  refine pure_ (i := 2) (N := some 40) (v := ?_) (a' := ?_) #[false, true, true, false, false, false, false, false, false] rfl rfl (by kernel_rfl) (fun _ _ _ h => h) (Or.inl ⟨by rfl, ?_⟩) ?_ ?_
  rotate_left
  · intro w'; go_simp; with_reducible rfl
  rotate_left
  · simp only [Act.put, OpenRow.s1, OpenRow.s2, OpenRow.s3, i64_w, i32_w]; rfl
  refine take_ (i := 0) (N := some 38) (v := ?_) (a' := ?_) #[true, true, true, false, false, false, false, false, false] rfl rfl (by kernel_rfl) (fun _ _ _ h => h) (Or.inl ⟨by rfl, ?_⟩) hHeld ?_ ?_
  rotate_left
  · rintro w' ⟨s0, s1, s2⟩
    refine (run_ld 52 (.tmp 3) (by rfl) g6_ (by rfl) s1 Try.underlying52 (m := 4) (by kernel_rfl) (num_length _)).trans ?_; with_reducible rfl
  rotate_left
  · simp only [Act.put, OpenRow.s1, OpenRow.s2, OpenRow.s3, i64_w, i32_w]; rfl
  refine one_ (i := 3) (N := some 41) #[true, true, true, true, false, false, false, false, false] rfl rfl (by kernel_rfl) (by decide) (fun K hK => ?_)
  refine goes_ Try.func74 (by kernel_rfl) rfl #[.int .u64 (m2 : Int)] (by rfl) rfl rfl (by simp only [List.map_toArray, List.map_cons, List.map_nil] <;> rfl) ?_
  with_reducible refine (HS2.out _).mono ?_
  rintro e w3 ⟨rfl, hb⟩
  refine ⟨_, rfl, ?_⟩
  have V8 := Aside0.mk (V7.out.step hb)
  have A8 := Aside0.mk (blk_below A7.out hb)
  have D8 := Aside0.mk (blk_below D7.out hb)
  clear hb
  refine hK.out _ _ ⟨V8.out, A8.out, D8.out⟩ (fun hHeld => ?_)
  clear hK K
  refine norm_ (a' := ?_) ?_ ?_
  rotate_left
  · show Act.put _ (some 41) _ = _
    simp only [Act.put, OpenRow.s1, OpenRow.s2, OpenRow.s3, i64_w, i32_w]
    rfl
  refine one_ (i := 4) (N := some 42) #[true, true, true, true, true, false, false, false, false] rfl rfl (by kernel_rfl) (by decide) (fun K hK => ?_)
  refine goes_ Try.func67 (by kernel_rfl) rfl #[.agg (arr .u64 (num l2)), .agg (arr .u64 (num m2))] (by rfl) rfl rfl (by simp only [List.map_toArray, List.map_cons, List.map_nil] <;> rfl) ?_
  with_reducible refine (HP3.out _).mono ?_
  rintro e w3 ⟨rfl, hb⟩
  refine ⟨_, rfl, ?_⟩
  have V9 := Aside0.mk (V8.out.step hb)
  have A9 := Aside0.mk (blk_below A8.out hb)
  have D9 := Aside0.mk (blk_below D8.out hb)
  clear hb
  refine hK.out _ _ ⟨V9.out, A9.out, D9.out⟩ (fun hHeld => ?_)
  clear hK K
  refine norm_ (a' := ?_) ?_ ?_
  rotate_left
  · show Act.put _ (some 42) _ = _
    simp only [Act.put, OpenRow.s1, OpenRow.s2, OpenRow.s3, i64_w, i32_w]
    rfl
  refine pure_ (i := 5) (N := some 37) (v := ?_) (a' := ?_) #[true, true, true, true, true, true, false, false, false] rfl rfl (by kernel_rfl) (fun _ _ _ h => h) (Or.inl ⟨by rfl, ?_⟩) ?_ ?_
  rotate_left
  · intro w'; go_simp; with_reducible rfl
  rotate_left
  · simp only [Act.put, OpenRow.s1, OpenRow.s2, OpenRow.s3, i64_w, i32_w]; rfl
  refine pure_ (i := 6) (N := some 43) (v := ?_) (a' := ?_) #[true, true, true, true, true, true, true, false, false] rfl rfl (by kernel_rfl) (fun _ _ _ h => h) (Or.inl ⟨by rfl, ?_⟩) ?_ ?_
  rotate_left
  · intro w'; go_simp; with_reducible rfl
  rotate_left
  · simp only [Act.put, OpenRow.s1, OpenRow.s2, OpenRow.s3, i64_w, i32_w]; rfl
  refine pure_ (i := 7) (N := some 44) (v := ?_) (a' := ?_) #[true, true, true, true, true, true, true, true, false] rfl rfl (by kernel_rfl) (fun _ _ _ h => h) (Or.inl ⟨by rfl, ?_⟩) ?_ ?_
  rotate_left
  · intro w'; go_simp; with_reducible rfl
  rotate_left
  · simp only [Act.put, OpenRow.s1, OpenRow.s2, OpenRow.s3, i64_w, i32_w]; rfl
  refine last_ (i := 8) (N := none) #[true, true, true, true, true, true, true, true, true] rfl rfl (by kernel_rfl) (by decide) (fun K hK => ?_)
  refine st_step (by rfl) rfl 52 (.tmp 3) (.tmp 43) rfl g6_ rfl rfl A9.out (m := 4) (by kernel_rfl) (num_length _) (by rw [num_length, num_length]) ?_
  intro w6 h1 h2 h3 h4
  have A10 := Aside0.mk h1
  have V10 := Aside0.mk (St.other V9.out h2 h3 EL.out)
  have D10 := Aside0.mk ((h2 _ MM.out.symm).trans D9.out)
  clear h1 h2 h3 h4
  refine hK.out _ _ ?_
  clear hK K
  refine done_ (by kernel_rfl) ?_
  go_wp2_with (first
    | ((with_reducible refine gate_dst (N := 45) rfl ?_); refine ld_arr rfl 52 (.tmp 3) rfl g6_ rfl A10.out Try.underlying52 (m := 4) (by kernel_rfl) (num_length _) ?_)
    | ((with_reducible refine (HQ.out _).mono ?_); rintro e w7 ⟨rfl, hb⟩; have V11 := Aside0.mk (V10.out.step hb); clear hb)
    | (refine st_arr rfl 34 (.tmp 2) (.tmp 46) rfl (w.heap.size + 1) (xs := num r) rfl rfl (V11.out.blk 1 rfl) (m := 4) (by kernel_rfl) (num_length _) (by rw [num_length]; rfl) ?_; intro w' h1 h2 h4 h3; have H1 := Aside0.mk h1; have V12 := Aside0.mk (V11.out.row 1 rfl h1 h2 h3); clear h1 h2 h3 h4))
  exact bodyPost_ret (results_cell_row Try.results72 _ _ (w.heap.size + 1) 34 _ (0, 0) _ rfl H1.out Try.underlying34 rfl (by rw [arr_size, num_length]; kernel_rfl)) rfl ⟨rfl, V12.out.below⟩
set_option maxHeartbeats 1000000 in
set_option maxRecDepth 100000 in
theorem impl_element_times.calls (x y : Nat) (w : World) (hx : x < BB) (hy : y < BB) :
    Calls Try.prog 38 #[.agg (arr .u64 (num x)), .agg (arr .u64 (num y))] w fun e w' => e = .returned (.agg (arr .u64 (num (x * y % PP)))) ∧ Below w.heap.size w w' := by
  have HT := Aside0.mk (fun W => impl_number_times.calls x y W hx hy)
  have HR := Aside0.mk (fun W => impl_wide_reduced.calls (x * y) W (Nat.mul_lt_mul'' hx hy))
  clear hx hy
  generalize x * y % PP = r at *
  generalize x * y = z at *
  have S := Aside0.mk ((((St.start w).push rfl 34 .u64 (num x)).push (World.size_alloc ..) 34 .u64 (num y)).push (by rw [World.size_alloc, World.size_alloc]; rfl) 34 .u64 z4)
  go_enter Try.func38, Try.ntmps38
  go_wp2_with (first
    | ((with_reducible refine gate_dst (N := 5) rfl ?_); refine ld_arr rfl 34 (.tmp 2) rfl w.heap.size rfl (S.out.blk 0 rfl) Try.underlying34 (m := 4) (by kernel_rfl) (num_length _) ?_)
    | ((with_reducible refine gate_dst (N := 6) rfl ?_); refine ld_arr rfl 34 (.tmp 3) rfl (w.heap.size + 1) rfl (S.out.blk 1 rfl) Try.underlying34 (m := 4) (by kernel_rfl) (num_length _) ?_)
    | ((with_reducible refine (HT.out _).mono ?_); rintro e w1 ⟨rfl, hb⟩; have S1 := Aside0.mk (S.out.step hb); clear hb)
    | ((with_reducible refine (HR.out _).mono ?_); rintro e w2 ⟨rfl, hb⟩; have S2 := Aside0.mk (S1.out.step hb); clear hb)
    | (refine st_arr rfl 34 (.tmp 4) (.tmp 8) rfl (w.heap.size + 2) (xs := num r) rfl rfl (S2.out.blk 2 rfl) (m := 4) (by kernel_rfl) (num_length _) (by rw [num_length]; rfl) ?_; intro w' h1 h2 h4 h3; have H1 := Aside0.mk h1; have S3 := Aside0.mk (S2.out.row 2 rfl h1 h2 h3); clear h1 h2 h3 h4))
  exact bodyPost_ret (results_cell_row Try.results38 _ _ (w.heap.size + 2) 34 _ (0, 0) _ rfl H1.out Try.underlying34 rfl (by rw [arr_size, num_length]; kernel_rfl)) rfl ⟨rfl, S3.out.below⟩
def curveN : Nat := 37095705934669439343138083508754565189542113879843219016388785533085940283555
theorem num_curve : [8496970652267935907, 31536524315187371, 10144147576115030168, 5909686906226998899] = num curveN := by decide
set_option maxHeartbeats 1000000 in
set_option maxRecDepth 100000 in
theorem impl_curve.calls (w : World) :
    Calls Try.prog 39 #[] w fun e w' => e = .returned (.agg (arr .u64 (num curveN))) ∧ Below w.heap.size w w' := by
  rw [← num_curve]
  go_enter Try.func39, Try.ntmps39
  go_wp2
  exact bodyPost_ret (results_cell_row Try.results39 _ _ w.heap.size 34 _ (0, 0) _ rfl (blk_new w _) Try.underlying34 rfl (by kernel_rfl)) rfl ⟨by rfl, below_alloc (Below.refl _ _) _⟩
set_option maxHeartbeats 1000000 in
set_option maxRecDepth 100000 in
theorem impl_element_plus.calls (x y : Nat) (w : World) (hx : x < PP) (hy : y < PP) :
    Calls Try.prog 40 #[.agg (arr .u64 (num x)), .agg (arr .u64 (num y))] w fun e w' => e = .returned (.agg (arr .u64 (num ((x + y) % PP)))) ∧ Below w.heap.size w w' := by
  have hm : (x + y) % BB % PP = (x + y) % PP := by rw [Nat.mod_eq_of_lt (show x + y < BB by rw [FldB.PP_eq] at hx hy; rw [BB_eq]; omega)]
  obtain ⟨cv, HP⟩ : ∃ cv : Value, Aside0 (∀ W, Calls Try.prog 67 #[.agg (arr .u64 (num x)), .agg (arr .u64 (num y))] W fun e w' => e = .returned (.tuple #[.agg (arr .u64 (num (x + y))), cv]) ∧ Below W.heap.size W w') := ⟨_, ⟨fun W => impl_number_plus.calls x y W⟩⟩
  have HQ := Aside0.mk (fun W => impl_number_reduced.calls (x + y) W)
  rw [hm] at HQ
  clear hm hx hy
  generalize x + y = z at *
  generalize z % PP = r at *
  have S := Aside0.mk ((((St.start w).push rfl 34 .u64 (num x)).push (World.size_alloc ..) 34 .u64 (num y)).push (by rw [World.size_alloc, World.size_alloc]; rfl) 34 .u64 z4)
  go_enter Try.func40, Try.ntmps40
  go_wp2_with (first
    | ((with_reducible refine gate_dst (N := 8) rfl ?_); refine ld_arr rfl 34 (.tmp 2) rfl w.heap.size rfl (S.out.blk 0 rfl) Try.underlying34 (m := 4) (by kernel_rfl) (num_length _) ?_)
    | ((with_reducible refine gate_dst (N := 9) rfl ?_); refine ld_arr rfl 34 (.tmp 3) rfl (w.heap.size + 1) rfl (S.out.blk 1 rfl) Try.underlying34 (m := 4) (by kernel_rfl) (num_length _) ?_)
    | ((with_reducible refine (HP.out _).mono ?_); rintro e w1 ⟨rfl, hb⟩; have S1 := Aside0.mk (S.out.step hb); clear hb)
    | (refine st_arr rfl 52 (.tmp 5) (.tmp 11) rfl w1.heap.size (xs := num z) rfl rfl (blk_new w1 (.cells (arr .u64 z4) 52)) (m := 4) (by kernel_rfl) (num_length _) (by rw [num_length]; rfl) ?_; intro w2 h1 h2 h4 h3; have G2 := Aside0.mk h1; have S2 := Aside0.mk (St.other (S1.out.alloc (.cells (arr .u64 z4) 52)) h2 h3 S1.out.size); clear h1 h2 h3 h4)
    | ((with_reducible refine gate_dst (N := 13) rfl ?_); refine ld_arr rfl 52 (.tmp 5) rfl w1.heap.size rfl G2.out Try.underlying52 (m := 4) (by kernel_rfl) (num_length _) ?_)
    | ((with_reducible refine (HQ.out _).mono ?_); rintro e w3 ⟨rfl, hb⟩; have S3 := Aside0.mk (S2.out.step hb); clear hb)
    | (refine st_arr rfl 34 (.tmp 4) (.tmp 14) rfl (w.heap.size + 2) (xs := num r) rfl rfl (S3.out.blk 2 rfl) (m := 4) (by kernel_rfl) (num_length _) (by rw [num_length]; rfl) ?_; intro w' h1 h2 h4 h3; have H1 := Aside0.mk h1; have S4 := Aside0.mk (S3.out.row 2 rfl h1 h2 h3); clear h1 h2 h3 h4))
  exact bodyPost_ret (results_cell_row Try.results40 _ _ (w.heap.size + 2) 34 _ (0, 0) _ rfl H1.out Try.underlying34 rfl (by rw [arr_size, num_length]; kernel_rfl)) rfl ⟨rfl, S4.out.below⟩
set_option maxHeartbeats 1000000 in
set_option maxRecDepth 100000 in
theorem impl_element_minus.calls (x y : Nat) (w : World) (hx : x < PP) (hy : y < PP) :
    Calls Try.prog 41 #[.agg (arr .u64 (num x)), .agg (arr .u64 (num y))] w fun e w' => e = .returned (.agg (arr .u64 (num ((x + PP - y) % PP)))) ∧ Below w.heap.size w w' := by
  have hpb : PP + PP < BB := by decide
  have e1 : (x + PP) % BB + BB - y % BB = (x + PP - y) + BB := by rw [Nat.mod_eq_of_lt (show x + PP < BB by omega), Nat.mod_eq_of_lt (show y < BB by omega)]; omega
  have e2 : ((x + PP - y) + BB) % BB % PP = (x + PP - y) % PP := by rw [Nat.add_mod_right, Nat.mod_eq_of_lt (show x + PP - y < BB by omega)]
  obtain ⟨cv, HP⟩ : ∃ cv : Value, Aside0 (∀ W, Calls Try.prog 67 #[.agg (arr .u64 (num x)), .agg (arr .u64 (num PP))] W fun e w' => e = .returned (.tuple #[.agg (arr .u64 (num (x + PP))), cv]) ∧ Below W.heap.size W w') := ⟨_, ⟨fun W => impl_number_plus.calls x PP W⟩⟩
  obtain ⟨dv, HM⟩ : ∃ dv : Value, Aside0 (∀ W, Calls Try.prog 68 #[.agg (arr .u64 (num (x + PP))), .agg (arr .u64 (num y))] W fun e w' => e = .returned (.tuple #[.agg (arr .u64 (num (x + PP - y + BB))), dv]) ∧ Below W.heap.size W w') := ⟨_, ⟨fun W => by
    have h := impl_number_minus.calls (x + PP) y W
    rw [show P64 ^ 4 = BB from by decide, e1] at h
    exact h⟩⟩
  have HQ := Aside0.mk (fun W => impl_number_reduced.calls (x + PP - y + BB) W)
  rw [e2] at HQ
  clear e1 e2 hx hy hpb
  generalize x + PP - y + BB = u at *
  generalize (x + PP - y) % PP = r at *
  generalize x + PP = z at *
  have S := Aside0.mk ((((St.start w).push rfl 34 .u64 (num x)).push (World.size_alloc ..) 34 .u64 (num y)).push (by rw [World.size_alloc, World.size_alloc]; rfl) 34 .u64 z4)
  go_enter Try.func41, Try.ntmps41
  go_wp2
  refine abs_world (bs := [⟨34, .u64, num x⟩, ⟨34, .u64, num y⟩, ⟨34, .u64, z4⟩]) S.out ?_
  clear S
  intro W0 hS
  have T := Aside0.mk hS.drew
  clear hS
  refine start_ (n := 9) (S := fun w' => St w [⟨34, .u64, num x⟩, ⟨34, .u64, num y⟩, ⟨34, .u64, z4⟩] w') (ds := []) #[false, false, false, false, false, false, false, false, false] (by kernel_rfl) rfl rfl (T.out) (fun hHeld => ?_)
  refine take_ (i := 0) (N := some 10) (v := ?_) (a' := ?_) #[true, false, false, false, false, false, false, false, false] rfl rfl (by kernel_rfl) (fun _ _ _ h => h) (Or.inl ⟨by rfl, ?_⟩) hHeld ?_ ?_
  rotate_left
  · intro w' s0
    refine (run_ld 34 (.tmp 2) (by rfl) w.heap.size (by rfl) (s0.blk 0 rfl) Try.underlying34 (m := 4) (by kernel_rfl) (num_length _)).trans ?_; with_reducible rfl
  rotate_left
  · simp only [Act.put, List.setIfInBounds_toArray, List.set_cons_zero, List.set_cons_succ, i64_w, i32_w]
    rfl
  refine join_ (σ := Nat) 2 #[true, true, true, true, true, true, true, false, false] (fun s_ => [(11, .agg (arr .u64 (num PP))), (12, .tuple #[.agg (arr .u64 (num z)), cv]), (5, .pointer (some ⟨s_, 0, none⟩)), (9, .tuple #[.agg (arr .u64 (num z)), cv]), (13, .agg (arr .u64 (num z))), (14, cv)]) (fun s_ w' => (St w [⟨34, .u64, num x⟩, ⟨34, .u64, num y⟩, ⟨34, .u64, z4⟩] w') ∧ w'.heap[s_]? = some (.cells (arr .u64 z4) 52 (0, 0)) ∧ w.heap.size + 3 ≤ s_) ?_ ?_
  rotate_left
  · intro hCont
    refine two_ (i := 1) (j := 6) (Ni := some 11) (Nj := some 5) #[true, true, false, false, false, false, false, false, false] #[true, false, false, false, false, false, true, false, false] rfl rfl rfl rfl (by kernel_rfl) (by decide) (by decide) (fun K hK => ?_) (fun K hK => ?_)
    · skip
      refine goes_ Try.func71 (by kernel_rfl) rfl #[] (by rfl) rfl rfl (by simp only [List.map_toArray, List.map_cons, List.map_nil] <;> rfl) ?_
      with_reducible refine (impl_prime.calls _).mono ?_
      rintro e w3 ⟨rfl, hb⟩
      refine ⟨_, rfl, ?_⟩
      have T_1 := Aside0.mk (T.out.step hb)
      clear hb
      refine hK.out _ _ (T_1.out) (fun hHeld => ?_)
      clear hK K
      refine norm_ (a' := ?_) ?_ ?_
      rotate_left
      · show Act.put _ (some 11) _ = _
        simp only [Act.put, List.setIfInBounds_toArray, List.set_cons_zero, List.set_cons_succ, i64_w, i32_w]
        rfl
      refine two_ (i := 2) (j := 6) (Ni := some 12) (Nj := some 5) #[true, true, true, false, false, false, false, false, false] #[true, true, false, false, false, false, true, false, false] rfl rfl rfl rfl (by kernel_rfl) (by decide) (by decide) (fun K hK => ?_) (fun K hK => ?_)
      · skip
        refine goes_ Try.func67 (by kernel_rfl) rfl #[.agg (arr .u64 (num x)), .agg (arr .u64 (num PP))] (by rfl) rfl rfl (by simp only [List.map_toArray, List.map_cons, List.map_nil] <;> rfl) ?_
        with_reducible refine (HP.out _).mono ?_
        rintro e w3 ⟨rfl, hb⟩
        refine ⟨_, rfl, ?_⟩
        have T_1_2 := Aside0.mk (T_1.out.step hb)
        clear hb
        refine hK.out _ _ (T_1_2.out) (fun hHeld => ?_)
        clear hK K
        refine norm_ (a' := ?_) ?_ ?_
        rotate_left
        · show Act.put _ (some 12) _ = _
          simp only [Act.put, List.setIfInBounds_toArray, List.set_cons_zero, List.set_cons_succ, i64_w, i32_w]
          rfl
        refine pure_ (i := 3) (N := some 9) (v := ?_) (a' := ?_) #[true, true, true, true, false, false, false, false, false] rfl rfl (by kernel_rfl) (fun _ _ _ h => h) (Or.inl ⟨by rfl, ?_⟩) ?_ ?_
        rotate_left
        · intro w'
          go_simp
          with_reducible rfl
        rotate_left
        · simp only [Act.put, List.setIfInBounds_toArray, List.set_cons_zero, List.set_cons_succ, i64_w, i32_w]
          rfl
        refine pure_ (i := 4) (N := some 13) (v := ?_) (a' := ?_) #[true, true, true, true, true, false, false, false, false] rfl rfl (by kernel_rfl) (fun _ _ _ h => h) (Or.inl ⟨by rfl, ?_⟩) ?_ ?_
        rotate_left
        · intro w'
          go_simp
          with_reducible rfl
        rotate_left
        · simp only [Act.put, List.setIfInBounds_toArray, List.set_cons_zero, List.set_cons_succ, i64_w, i32_w]
          rfl
        refine pure_ (i := 5) (N := some 14) (v := ?_) (a' := ?_) #[true, true, true, true, true, true, false, false, false] rfl rfl (by kernel_rfl) (fun _ _ _ h => h) (Or.inl ⟨by rfl, ?_⟩) ?_ ?_
        rotate_left
        · intro w'
          go_simp
          with_reducible rfl
        rotate_left
        · simp only [Act.put, List.setIfInBounds_toArray, List.set_cons_zero, List.set_cons_succ, i64_w, i32_w]
          rfl
        refine one_ (i := 6) (N := some 5) #[true, true, true, true, true, true, true, false, false] rfl rfl (by kernel_rfl) (by decide) (fun K hK => ?_)
        refine value_ (w1 := ?_) (v := ?_) (by rfl) rfl ?_ ?_
        rotate_left 2
        · go_simp
          constructor
          · rfl
          · rfl
        have T_1_2_6 := Aside0.mk (T_1_2.out.alloc (.cells (arr .u64 z4) 52))
        have G6_1_2_6 := Aside0.mk (T_1_2.out.new (.cells (arr .u64 z4) 52))
        have E6 := Aside0.mk T_1_2.out.size
        refine hK.out _ _ (T_1_2_6.out) (fun hHeld => ?_)
        clear hK K
        refine norm_ (a' := ?_) ?_ ?_
        rotate_left
        · show Act.put _ (some 5) _ = _
          simp only [Act.put, List.setIfInBounds_toArray, List.set_cons_zero, List.set_cons_succ, i64_w, i32_w]
          rfl
        exact norm_ (by first | (simp only [putAll, Act.put, List.setIfInBounds_toArray, List.set_cons_zero, List.set_cons_succ]; done) | (simp only [putAll, Act.put, List.setIfInBounds_toArray, List.set_cons_zero, List.set_cons_succ]; rfl)) (hCont _ _ ⟨T_1_2_6.out, G6_1_2_6.out, E6.out⟩)
      · skip
        refine value_ (w1 := ?_) (v := ?_) (by rfl) rfl ?_ ?_
        rotate_left 2
        · go_simp
          constructor
          · rfl
          · rfl
        have T_1_6 := Aside0.mk (T_1.out.alloc (.cells (arr .u64 z4) 52))
        have G6_1_6 := Aside0.mk (T_1.out.new (.cells (arr .u64 z4) 52))
        have E6 := Aside0.mk T_1.out.size
        refine hK.out _ _ (T_1_6.out) (fun hHeld => ?_)
        clear hK K
        refine norm_ (a' := ?_) ?_ ?_
        rotate_left
        · show Act.put _ (some 5) _ = _
          simp only [Act.put, List.setIfInBounds_toArray, List.set_cons_zero, List.set_cons_succ, i64_w, i32_w]
          rfl
        refine one_ (i := 2) (N := some 12) #[true, true, true, false, false, false, true, false, false] rfl rfl (by kernel_rfl) (by decide) (fun K hK => ?_)
        refine goes_ Try.func67 (by kernel_rfl) rfl #[.agg (arr .u64 (num x)), .agg (arr .u64 (num PP))] (by rfl) rfl rfl (by simp only [List.map_toArray, List.map_cons, List.map_nil] <;> rfl) ?_
        with_reducible refine (HP.out _).mono ?_
        rintro e w3 ⟨rfl, hb⟩
        refine ⟨_, rfl, ?_⟩
        have T_1_6_2 := Aside0.mk (T_1_6.out.step hb)
        have G6_1_6_2 := Aside0.mk (blk_below G6_1_6.out hb)
        clear hb
        refine hK.out _ _ (T_1_6_2.out) (fun hHeld => ?_)
        clear hK K
        refine norm_ (a' := ?_) ?_ ?_
        rotate_left
        · show Act.put _ (some 12) _ = _
          simp only [Act.put, List.setIfInBounds_toArray, List.set_cons_zero, List.set_cons_succ, i64_w, i32_w]
          rfl
        refine pure_ (i := 3) (N := some 9) (v := ?_) (a' := ?_) #[true, true, true, true, false, false, true, false, false] rfl rfl (by kernel_rfl) (fun _ _ _ h => h) (Or.inl ⟨by rfl, ?_⟩) ?_ ?_
        rotate_left
        · intro w'
          go_simp
          with_reducible rfl
        rotate_left
        · simp only [Act.put, List.setIfInBounds_toArray, List.set_cons_zero, List.set_cons_succ, i64_w, i32_w]
          rfl
        refine pure_ (i := 4) (N := some 13) (v := ?_) (a' := ?_) #[true, true, true, true, true, false, true, false, false] rfl rfl (by kernel_rfl) (fun _ _ _ h => h) (Or.inl ⟨by rfl, ?_⟩) ?_ ?_
        rotate_left
        · intro w'
          go_simp
          with_reducible rfl
        rotate_left
        · simp only [Act.put, List.setIfInBounds_toArray, List.set_cons_zero, List.set_cons_succ, i64_w, i32_w]
          rfl
        refine pure_ (i := 5) (N := some 14) (v := ?_) (a' := ?_) #[true, true, true, true, true, true, true, false, false] rfl rfl (by kernel_rfl) (fun _ _ _ h => h) (Or.inl ⟨by rfl, ?_⟩) ?_ ?_
        rotate_left
        · intro w'
          go_simp
          with_reducible rfl
        rotate_left
        · simp only [Act.put, List.setIfInBounds_toArray, List.set_cons_zero, List.set_cons_succ, i64_w, i32_w]
          rfl
        exact norm_ (by first | (simp only [putAll, Act.put, List.setIfInBounds_toArray, List.set_cons_zero, List.set_cons_succ]; done) | (simp only [putAll, Act.put, List.setIfInBounds_toArray, List.set_cons_zero, List.set_cons_succ]; rfl)) (hCont _ _ ⟨T_1_6_2.out, G6_1_6_2.out, E6.out⟩)
    · skip
      refine value_ (w1 := ?_) (v := ?_) (by rfl) rfl ?_ ?_
      rotate_left 2
      · go_simp
        constructor
        · rfl
        · rfl
      have T_6 := Aside0.mk (T.out.alloc (.cells (arr .u64 z4) 52))
      have G6_6 := Aside0.mk (T.out.new (.cells (arr .u64 z4) 52))
      have E6 := Aside0.mk T.out.size
      refine hK.out _ _ (T_6.out) (fun hHeld => ?_)
      clear hK K
      refine norm_ (a' := ?_) ?_ ?_
      rotate_left
      · show Act.put _ (some 5) _ = _
        simp only [Act.put, List.setIfInBounds_toArray, List.set_cons_zero, List.set_cons_succ, i64_w, i32_w]
        rfl
      refine one_ (i := 1) (N := some 11) #[true, true, false, false, false, false, true, false, false] rfl rfl (by kernel_rfl) (by decide) (fun K hK => ?_)
      refine goes_ Try.func71 (by kernel_rfl) rfl #[] (by rfl) rfl rfl (by simp only [List.map_toArray, List.map_cons, List.map_nil] <;> rfl) ?_
      with_reducible refine (impl_prime.calls _).mono ?_
      rintro e w3 ⟨rfl, hb⟩
      refine ⟨_, rfl, ?_⟩
      have T_6_1 := Aside0.mk (T_6.out.step hb)
      have G6_6_1 := Aside0.mk (blk_below G6_6.out hb)
      clear hb
      refine hK.out _ _ (T_6_1.out) (fun hHeld => ?_)
      clear hK K
      refine norm_ (a' := ?_) ?_ ?_
      rotate_left
      · show Act.put _ (some 11) _ = _
        simp only [Act.put, List.setIfInBounds_toArray, List.set_cons_zero, List.set_cons_succ, i64_w, i32_w]
        rfl
      refine one_ (i := 2) (N := some 12) #[true, true, true, false, false, false, true, false, false] rfl rfl (by kernel_rfl) (by decide) (fun K hK => ?_)
      refine goes_ Try.func67 (by kernel_rfl) rfl #[.agg (arr .u64 (num x)), .agg (arr .u64 (num PP))] (by rfl) rfl rfl (by simp only [List.map_toArray, List.map_cons, List.map_nil] <;> rfl) ?_
      with_reducible refine (HP.out _).mono ?_
      rintro e w3 ⟨rfl, hb⟩
      refine ⟨_, rfl, ?_⟩
      have T_6_1_2 := Aside0.mk (T_6_1.out.step hb)
      have G6_6_1_2 := Aside0.mk (blk_below G6_6_1.out hb)
      clear hb
      refine hK.out _ _ (T_6_1_2.out) (fun hHeld => ?_)
      clear hK K
      refine norm_ (a' := ?_) ?_ ?_
      rotate_left
      · show Act.put _ (some 12) _ = _
        simp only [Act.put, List.setIfInBounds_toArray, List.set_cons_zero, List.set_cons_succ, i64_w, i32_w]
        rfl
      refine pure_ (i := 3) (N := some 9) (v := ?_) (a' := ?_) #[true, true, true, true, false, false, true, false, false] rfl rfl (by kernel_rfl) (fun _ _ _ h => h) (Or.inl ⟨by rfl, ?_⟩) ?_ ?_
      rotate_left
      · intro w'
        go_simp
        with_reducible rfl
      rotate_left
      · simp only [Act.put, List.setIfInBounds_toArray, List.set_cons_zero, List.set_cons_succ, i64_w, i32_w]
        rfl
      refine pure_ (i := 4) (N := some 13) (v := ?_) (a' := ?_) #[true, true, true, true, true, false, true, false, false] rfl rfl (by kernel_rfl) (fun _ _ _ h => h) (Or.inl ⟨by rfl, ?_⟩) ?_ ?_
      rotate_left
      · intro w'
        go_simp
        with_reducible rfl
      rotate_left
      · simp only [Act.put, List.setIfInBounds_toArray, List.set_cons_zero, List.set_cons_succ, i64_w, i32_w]
        rfl
      refine pure_ (i := 5) (N := some 14) (v := ?_) (a' := ?_) #[true, true, true, true, true, true, true, false, false] rfl rfl (by kernel_rfl) (fun _ _ _ h => h) (Or.inl ⟨by rfl, ?_⟩) ?_ ?_
      rotate_left
      · intro w'
        go_simp
        with_reducible rfl
      rotate_left
      · simp only [Act.put, List.setIfInBounds_toArray, List.set_cons_zero, List.set_cons_succ, i64_w, i32_w]
        rfl
      exact norm_ (by first | (simp only [putAll, Act.put, List.setIfInBounds_toArray, List.set_cons_zero, List.set_cons_succ]; done) | (simp only [putAll, Act.put, List.setIfInBounds_toArray, List.set_cons_zero, List.set_cons_succ]; rfl)) (hCont _ _ ⟨T_6_1_2.out, G6_6_1_2.out, E6.out⟩)
  rintro g6_ w9 ⟨hHeld, hG6, hE6⟩
  have T9 := Aside0.mk hHeld
  have GG6 := Aside0.mk hG6
  have EE6 := Aside0.mk hE6
  clear hG6 hE6
  refine norm_ (a' := ?_) ?_ ?_
  rotate_left
  · simp only [putAll, Act.put, List.setIfInBounds_toArray, List.set_cons_zero, List.set_cons_succ]
    rfl
  refine one_ (i := 7) (N := none) #[true, true, true, true, true, true, true, true, false] rfl rfl (by kernel_rfl) (by decide) (fun K hK => ?_)
  refine st_step (by rfl) rfl 52 (.tmp 5) (.tmp 13) rfl g6_ rfl rfl GG6.out (m := 4) (by kernel_rfl) (num_length _) (by rw [num_length]; rfl) ?_
  intro w6 h1 h2 h3 h4
  have G1 := Aside0.mk h1
  have S1 := Aside0.mk (St.other T9.out h2 h3 EE6.out)
  clear h1 h2 h3 h4
  refine hK.out _ _ (S1.out) (fun hHeld => ?_)
  clear hK K
  refine pure_ (i := 8) (N := some 6) (v := ?_) (a' := ?_) #[true, true, true, true, true, true, true, true, true] rfl rfl (by kernel_rfl) (fun _ _ _ h => h) (Or.inl ⟨by rfl, ?_⟩) ?_ ?_
  rotate_left
  · intro w'
    go_simp
    with_reducible rfl
  rotate_left
  · simp only [Act.put, List.setIfInBounds_toArray, List.set_cons_zero, List.set_cons_succ, i64_w, i32_w]
    rfl
  refine done_ (by kernel_rfl) ?_
  go_wp2_with (first
    | ((with_reducible refine gate_dst (N := 16) rfl ?_); refine ld_arr rfl 52 (.tmp 5) rfl g6_ rfl G1.out Try.underlying52 (m := 4) (by kernel_rfl) (num_length _) ?_)
    | ((with_reducible refine gate_dst (N := 17) rfl ?_); refine ld_arr rfl 34 (.tmp 3) rfl (w.heap.size + 1) rfl (S1.out.blk 1 rfl) Try.underlying34 (m := 4) (by kernel_rfl) (num_length _) ?_)
    | ((with_reducible refine (HM.out _).mono ?_); rintro e w7 ⟨rfl, hb⟩; have S2 := Aside0.mk (S1.out.step hb); clear hb)
    | (refine st_arr rfl 52 (.tmp 7) (.tmp 19) rfl w7.heap.size (xs := num u) rfl rfl (blk_new w7 (.cells (arr .u64 z4) 52)) (m := 4) (by kernel_rfl) (num_length _) (by rw [num_length]; rfl) ?_; intro w8 h1 h2 h4 h3; have G3 := Aside0.mk h1; have S3 := Aside0.mk (St.other (S2.out.alloc (.cells (arr .u64 z4) 52)) h2 h3 S2.out.size); clear h1 h2 h3 h4)
    | ((with_reducible refine gate_dst (N := 21) rfl ?_); refine ld_arr rfl 52 (.tmp 7) rfl w7.heap.size rfl G3.out Try.underlying52 (m := 4) (by kernel_rfl) (num_length _) ?_)
    | ((with_reducible refine (HQ.out _).mono ?_); rintro e w9 ⟨rfl, hb⟩; have S4 := Aside0.mk (S3.out.step hb); clear hb)
    | (refine st_arr rfl 34 (.tmp 4) (.tmp 22) rfl (w.heap.size + 2) (xs := num r) rfl rfl (S4.out.blk 2 rfl) (m := 4) (by kernel_rfl) (num_length _) (by rw [num_length]; rfl) ?_; intro w' h1 h2 h4 h3; have H1 := Aside0.mk h1; have S5 := Aside0.mk (S4.out.row 2 rfl h1 h2 h3); clear h1 h2 h3 h4))
  exact bodyPost_ret (results_cell_row Try.results41 _ _ (w.heap.size + 2) 34 _ (0, 0) _ rfl H1.out Try.underlying34 rfl (by rw [arr_size, num_length]; kernel_rfl)) rfl ⟨rfl, S5.out.below⟩
set_option maxHeartbeats 1000000 in
set_option maxRecDepth 100000 in
theorem impl_element_power.calls (a n : Nat) (w : World) (ha : a < BB) (hn : n < P64 ^ 4) :
    Calls Try.prog 75 #[.agg (arr .u64 (num a)), .agg (arr .u64 (num n))] w fun e w' => e = .returned (.agg (arr .u64 (num (a ^ n % PP)))) ∧ Below w.heap.size w w' := by
  have hPB : PP < BB := by decide
  have H0 := Aside0.mk (show a ^ (n / 2 ^ 256) % PP = 1 by rw [wide_top0 n 4 256 hn rfl, Nat.pow_zero]; decide)
  have LN := Aside0.mk (num_length n)
  have HTT := Aside0.mk (fun x y W (hx : x < PP) (hy : y < BB) => impl_element_times.calls x y W (Nat.lt_trans hx hPB) hy)
  have HPB := Aside0.mk hPB
  have HA := Aside0.mk ha
  clear hPB ha hn
  have S := Aside0.mk ((((St.start w).push rfl 34 .u64 (num a)).push (World.size_alloc ..) 52 .u64 (num n)).push (by rw [World.size_alloc, World.size_alloc]; rfl) 34 .u64 z4)
  have S0 := Aside0.mk (S.out.push (by rw [World.size_alloc, World.size_alloc, World.size_alloc]; rfl) 34 .u64 z4)
  go_enter Try.func75, Try.ntmps75
  go_wp2_with (first
    | (refine st_arr rfl 34 (.tmp 5) (.tmp 7) rfl (w.heap.size + 3) (xs := [1, 0, 0, 0]) rfl rfl (S0.out.blk 3 rfl) (m := 4) (by kernel_rfl) rfl rfl ?_; intro w1 h1 h2 h4 h3; have S1 := Aside0.mk (S0.out.row 3 rfl h1 h2 h3); clear h1 h2 h3 h4))
  go_loopg [6] 257 (fun gg s6 wr => ∃ k : Nat, k ≤ 256 ∧ k ≤ gg ∧ s6 = .int .i64 ((k : Int) - 1) ∧ Aside0 (St w [⟨34, .u64, num a⟩, ⟨52, .u64, num n⟩, ⟨34, .u64, z4⟩, ⟨34, .u64, num (a ^ (n / 2 ^ k) % PP)⟩] wr))
  case atStart => exact ⟨256, Nat.le_refl _, by omega, rfl, by rw [H0.out, ← num_small 1 (by decide)]; exact S1⟩
  case round =>
    obtain ⟨k, hk, hg, rfl, S2⟩ := hrel
    rcases Nat.eq_zero_or_pos k with h0 | h0
    · subst h0
      have e0 : ((0 : Nat) : Int) - 1 = -1 := rfl
      rw [e0]
      rw [Nat.pow_zero, Nat.div_one] at S2
      go_wp2_with (first
        | ((with_reducible refine gate_dst (N := 27) rfl ?_); refine ld_arr rfl 34 (.tmp 5) rfl (w.heap.size + 3) rfl (S2.out.blk 3 rfl) Try.underlying34 (m := 4) (by kernel_rfl) (num_length _) ?_)
        | (refine st_arr rfl 34 (.tmp 4) (.tmp 27) rfl (w.heap.size + 2) (xs := num (a ^ n % PP)) rfl rfl (S2.out.blk 2 rfl) (m := 4) (by kernel_rfl) (num_length _) (by rw [num_length]; rfl) ?_; intro w' h1 h2 h4 h3; have H1 := Aside0.mk h1; have S3 := Aside0.mk (S2.out.row 2 rfl h1 h2 h3); clear h1 h2 h3 h4))
      exact bodyPost_ret (results_cell_row Try.results75 _ _ (w.heap.size + 2) 34 _ (0, 0) _ rfl H1.out Try.underlying34 rfl (by rw [arr_size, num_length]; kernel_rfl)) rfl ⟨rfl, S3.out.below⟩
    · obtain ⟨i, rfl⟩ : ∃ i, k = i + 1 := ⟨k - 1, by omega⟩
      have e0 : (((i + 1 : Nat)) : Int) - 1 = (i : Int) := by omega
      rw [e0]
      have hi0 : (i : Int) ≥ 0 := by omega
      have hi5 : i < 256 := by omega
      have hbit := num_and n i hi5
      obtain ⟨b, hb⟩ : ∃ b, b = n / 2 ^ i % 2 := ⟨_, rfl⟩
      rw [← hb] at hbit
      obtain ⟨x, hx⟩ : ∃ x, x = a ^ (n / 2 ^ (i + 1)) % PP := ⟨_, rfl⟩
      have hxP : x < PP := by rw [hx]; exact Nat.mod_lt _ PP_pos
      have hxm : x % PP = a ^ (n / 2 ^ (i + 1)) % PP := by rw [hx, Nat.mod_mod]
      rw [← hx] at S2
      obtain ⟨y, hy⟩ : ∃ y, y = x * x % PP := ⟨_, rfl⟩
      have hyP : y < PP := by rw [hy]; exact Nat.mod_lt _ PP_pos
      have HM1 := Aside0.mk (fun W => HTT.out x x W hxP (Nat.lt_trans hxP HPB.out))
      rw [← hy] at HM1
      have HM2 := Aside0.mk (fun W => HTT.out y a W hyP HA.out)
      obtain ⟨j, hj⟩ : ∃ j : Nat, j = i / 64 := ⟨_, rfl⟩
      obtain ⟨q, hq⟩ : ∃ q : Nat, q = i % 64 := ⟨_, rfl⟩
      have hj1 : (i : Int) / 64 = (j : Int) := by omega
      have hj3 : (i : Int).tdiv 64 = (j : Int) := by rw [Int.tdiv_eq_ediv_of_nonneg (by omega)]; omega
      have hq1 : (i : Int) % 64 = (q : Int) := by omega
      have hq2 : (i : Int).tmod 64 = (q : Int) := by rw [Int.tmod_eq_emod_of_nonneg (by omega)]; omega
      have j8 : (j : Int) < 4 := by omega
      have q63 : (q : Int) < 64 := by omega
      have j8n : j < 4 := by omega
      have q63n : q < 64 := by omega
      have m63 : min q 64 = q := by omega
      have wj : IntKind.i64.wrap (j : Int) = (j : Int) := by rw [IntKind.wrap_i64]; omega
      have wq : IntKind.i64.wrap (q : Int) = (q : Int) := by rw [IntKind.wrap_i64]; omega
      have r1 := getD_range (num_ok n) j (by rw [num_length]; omega)
      have r2 := r1.1
      clear r1
      rw [← hj, ← hq] at hbit
      have c1 := fun W (h : St w [⟨34, .u64, num a⟩, ⟨52, .u64, num n⟩, ⟨34, .u64, z4⟩, ⟨34, .u64, num (y)⟩] W) => h.cell 1 rfl j (by rw [LN.out]; omega)
      have C1 := Aside0.mk c1
      generalize (num n).getD j 0 = v1 at *
      clear c1
      rcases Nat.mod_two_eq_zero_or_one (n / 2 ^ i) with hb0 | hb0
      · have hpw := pow_sq a n i x hb0 hxm
        rw [← hy] at hpw
        have HY := Aside0.mk hpw
        rw [hb0] at hb
        subst hb
        clear hpw hb0 hxm hxP hyP hx hy hj hq e0
        have hbit0 : bits .and .u64 (v1 / 2 ^ q) 1 = 0 := hbit
        clear hbit
        go_wp2_with (first
          | ((with_reducible refine gate_dst (N := 12) rfl ?_); refine ld_arr rfl 34 (.tmp 5) rfl (w.heap.size + 3) rfl (S2.out.blk 3 rfl) Try.underlying34 (m := 4) (by kernel_rfl) (num_length _) ?_)
          | ((with_reducible refine gate_dst (N := 13) rfl ?_); refine ld_arr rfl 34 (.tmp 5) rfl (w.heap.size + 3) rfl (S2.out.blk 3 rfl) Try.underlying34 (m := 4) (by kernel_rfl) (num_length _) ?_)
          | ((with_reducible refine (HM1.out _).mono ?_); rintro e w3 ⟨rfl, hb⟩; have S3 := Aside0.mk (S2.out.step hb); clear hb)
          | (refine st_arr rfl 34 (.tmp 5) (.tmp 14) rfl (w.heap.size + 3) (xs := num y) rfl rfl (S3.out.blk 3 rfl) (m := 4) (by kernel_rfl) (num_length _) (by rw [num_length, num_length]) ?_; intro w4 h1 h2 h4 h3; have S4 := Aside0.mk (S3.out.row 3 rfl h1 h2 h3); have c1 := C1.out _ S4.out; clear h1 h2 h3 h4))
        go_roundg i
        case measure => omega
        case rel => exact ⟨i, by omega, Nat.le_refl _, by go_num, by rw [← HY.out]; exact S4⟩
      · have hpw := pow_sq1 a n i x hb0 hxm y (by rw [hy, Nat.mod_mod])
        have HY := Aside0.mk hpw
        rw [hb0] at hb
        subst hb
        clear hpw hb0 hxm hxP hyP hx hy hj hq e0
        have hbit0 : bits .and .u64 (v1 / 2 ^ q) 1 = 1 := hbit
        clear hbit
        go_wp2_with (first
          | ((with_reducible refine gate_dst (N := 12) rfl ?_); refine ld_arr rfl 34 (.tmp 5) rfl (w.heap.size + 3) rfl (S2.out.blk 3 rfl) Try.underlying34 (m := 4) (by kernel_rfl) (num_length _) ?_)
          | ((with_reducible refine gate_dst (N := 13) rfl ?_); refine ld_arr rfl 34 (.tmp 5) rfl (w.heap.size + 3) rfl (S2.out.blk 3 rfl) Try.underlying34 (m := 4) (by kernel_rfl) (num_length _) ?_)
          | ((with_reducible refine (HM1.out _).mono ?_); rintro e w3 ⟨rfl, hb⟩; have S3 := Aside0.mk (S2.out.step hb); clear hb)
          | (refine st_arr rfl 34 (.tmp 5) (.tmp 14) rfl (w.heap.size + 3) (xs := num y) rfl rfl (S3.out.blk 3 rfl) (m := 4) (by kernel_rfl) (num_length _) (by rw [num_length, num_length]) ?_; intro w4 h1 h2 h4 h3; have S4 := Aside0.mk (S3.out.row 3 rfl h1 h2 h3); have c1 := C1.out _ S4.out; clear h1 h2 h3 h4)
          | ((with_reducible refine gate_dst (N := 24) rfl ?_); refine ld_arr rfl 34 (.tmp 5) rfl (w.heap.size + 3) rfl (S4.out.blk 3 rfl) Try.underlying34 (m := 4) (by kernel_rfl) (num_length _) ?_)
          | ((with_reducible refine gate_dst (N := 25) rfl ?_); refine ld_arr rfl 34 (.tmp 2) rfl w.heap.size rfl (S4.out.blk 0 rfl) Try.underlying34 (m := 4) (by kernel_rfl) (num_length _) ?_)
          | ((with_reducible refine (HM2.out _).mono ?_); rintro e w5 ⟨rfl, hb⟩; have S5 := Aside0.mk (S4.out.step hb); clear hb)
          | (refine st_arr rfl 34 (.tmp 5) (.tmp 26) rfl (w.heap.size + 3) (xs := num (y * a % PP)) rfl rfl (S5.out.blk 3 rfl) (m := 4) (by kernel_rfl) (num_length _) (by rw [num_length, num_length]) ?_; intro w6 h1 h2 h4 h3; have S6 := Aside0.mk (S5.out.row 3 rfl h1 h2 h3); clear h1 h2 h3 h4))
        go_roundg i
        case measure => omega
        case rel => exact ⟨i, by omega, Nat.le_refl _, by go_num, by rw [← HY.out]; exact S6⟩
set_option maxHeartbeats 1000000 in
set_option maxRecDepth 100000 in
theorem impl_element_inverse.calls (a : Nat) (w : World) (ha : a < BB) :
    Calls Try.prog 42 #[.agg (arr .u64 (num a))] w fun e w' => e = .returned (.agg (arr .u64 (num (a ^ (PP - 2) % PP)))) ∧ Below w.heap.size w w' := by
  have HS2 := Aside0.mk (fun W' => (show Calls Try.prog 74 #[.int .u64 2] W' _ from impl_small.calls 2 W' (by decide)))
  obtain ⟨bw, HM⟩ : ∃ bw : Value, Aside0 (∀ W, Calls Try.prog 68 #[.agg (arr .u64 (num PP)), .agg (arr .u64 (num 2))] W fun e w' => e = .returned (.tuple #[.agg (arr .u64 (num (PP - 2))), bw]) ∧ Below W.heap.size W w') := ⟨_, ⟨fun W => by
    have h := impl_number_minus.calls PP 2 W
    rw [show num (PP % P64 ^ 4 + P64 ^ 4 - 2 % P64 ^ 4) = num (PP - 2) from by decide] at h
    exact h⟩⟩
  have HW := Aside0.mk (fun W => impl_element_power.calls a (PP - 2) W ha (by decide))
  clear ha
  generalize PP - 2 = n at *
  generalize a ^ n % PP = r at *
  have S := Aside0.mk (((St.start w).push rfl 34 .u64 (num a)).push (World.size_alloc ..) 34 .u64 z4)
  go_enter Try.func42, Try.ntmps42
  go_wp2_with (first
    | ((with_reducible refine (impl_prime.calls _).mono ?_); rintro e w1 ⟨rfl, hb⟩; have S1 := Aside0.mk (S.out.step hb); clear hb)
    | ((with_reducible refine (HS2.out _).mono ?_); rintro e w2 ⟨rfl, hb⟩; have S2 := Aside0.mk (S1.out.step hb); clear hb)
    | ((with_reducible refine (HM.out _).mono ?_); rintro e w3 ⟨rfl, hb⟩; have S3 := Aside0.mk (S2.out.step hb); clear hb)
    | (refine st_arr rfl 52 (.tmp 3) (.tmp 9) rfl w3.heap.size (xs := num n) rfl rfl (blk_new w3 (.cells (arr .u64 z4) 52)) (m := 4) (by kernel_rfl) (num_length _) (by rw [num_length]; rfl) ?_; intro w4 h1 h2 h4 h3; have G4 := Aside0.mk h1; have S4 := Aside0.mk (St.other (S3.out.alloc (.cells (arr .u64 z4) 52)) h2 h3 S3.out.size); clear h1 h2 h3 h4)
    | ((with_reducible refine gate_dst (N := 11) rfl ?_); refine ld_arr rfl 34 (.tmp 1) rfl w.heap.size rfl (S4.out.blk 0 rfl) Try.underlying34 (m := 4) (by kernel_rfl) (num_length _) ?_)
    | ((with_reducible refine gate_dst (N := 12) rfl ?_); refine ld_arr rfl 52 (.tmp 3) rfl w3.heap.size rfl G4.out Try.underlying52 (m := 4) (by kernel_rfl) (num_length _) ?_)
    | ((with_reducible refine (HW.out _).mono ?_); rintro e w5 ⟨rfl, hb⟩; have S5 := Aside0.mk (S4.out.step hb); clear hb)
    | (refine st_arr rfl 34 (.tmp 2) (.tmp 13) rfl (w.heap.size + 1) (xs := num r) rfl rfl (S5.out.blk 1 rfl) (m := 4) (by kernel_rfl) (num_length _) (by rw [num_length]; rfl) ?_; intro w' h1 h2 h4 h3; have H1 := Aside0.mk h1; have S6 := Aside0.mk (S5.out.row 1 rfl h1 h2 h3); clear h1 h2 h3 h4))
  exact bodyPost_ret (results_cell_row Try.results42 _ _ (w.heap.size + 1) 34 _ (0, 0) _ rfl H1.out Try.underlying34 rfl (by rw [arr_size, num_length]; kernel_rfl)) rfl ⟨rfl, S6.out.below⟩
set_option maxHeartbeats 1000000 in
set_option maxRecDepth 100000 in
theorem impl_element_negative.calls (a : Nat) (w : World) (ha : a < PP) :
    Calls Try.prog 45 #[.agg (arr .u64 (num a))] w fun e w' => e = .returned (.agg (arr .u64 (num ((PP - a) % PP)))) ∧ Below w.heap.size w w' := by
  have HM := Aside0.mk (fun W => impl_element_minus.calls 0 a W (by decide) ha)
  rw [Nat.zero_add, show num 0 = [0, 0, 0, 0] from by decide] at HM
  clear ha
  generalize (PP - a) % PP = r at *
  have S := Aside0.mk (((St.start w).push rfl 34 .u64 (num a)).push (World.size_alloc ..) 34 .u64 z4)
  go_enter Try.func45, Try.ntmps45
  go_wp2_with (first
    | ((with_reducible refine gate_dst (N := 4) rfl ?_); refine ld_arr rfl 34 (.tmp 1) rfl w.heap.size rfl (S.out.blk 0 rfl) Try.underlying34 (m := 4) (by kernel_rfl) (num_length _) ?_)
    | ((refine (HM.out _).mono ?_); rintro e w1 ⟨rfl, hb⟩; have S1 := Aside0.mk (S.out.step hb); clear hb)
    | (refine st_arr rfl 34 (.tmp 2) (.tmp 5) rfl (w.heap.size + 1) (xs := num r) rfl rfl (S1.out.blk 1 rfl) (m := 4) (by kernel_rfl) (num_length _) (by rw [num_length]; rfl) ?_; intro w' h1 h2 h4 h3; have H1 := Aside0.mk h1; have S2 := Aside0.mk (S1.out.row 1 rfl h1 h2 h3); clear h1 h2 h3 h4))
  exact bodyPost_ret (results_cell_row Try.results45 _ _ (w.heap.size + 1) 34 _ (0, 0) _ rfl H1.out Try.underlying34 rfl (by rw [arr_size, num_length]; kernel_rfl)) rfl ⟨rfl, S2.out.below⟩
theorem num_odd (x : Nat) : bits .and .u64 ((num x).getD 0 0) 1 = ((x % 2 : Nat) : Int) := by
  have h := num_and x 0 (by omega)
  simpa using h
set_option maxHeartbeats 1000000 in
set_option maxRecDepth 100000 in
theorem impl_element_isOdd.calls (x : Nat) (w : World) :
    Calls Try.prog 48 #[.agg (arr .u64 (num x))] w fun e w' => e = .returned (.bool (decide (x % 2 = 1))) ∧ Below w.heap.size w w' := by
  have hb := num_odd x
  have S := Aside0.mk ((St.start w).push rfl 34 .u64 (num x))
  have c0 := S.out.cell 0 rfl 0 (by rw [num_length]; omega)
  rw [Nat.add_zero] at c0
  generalize (num x).getD 0 0 = v at *
  rcases Nat.mod_two_eq_zero_or_one x with h | h
  · rw [h] at hb
    rw [decide_eq_false (by omega)]
    have hb0 : bits .and .u64 v 1 = 0 := hb
    clear hb h
    go_enter Try.func48, Try.ntmps48
    go_wp2
    go_ret
    exact ⟨rfl, S.out.below⟩
  · rw [h] at hb
    rw [decide_eq_true h]
    have hb0 : bits .and .u64 v 1 = 1 := hb
    clear hb h
    go_enter Try.func48, Try.ntmps48
    go_wp2
    go_ret
    exact ⟨rfl, S.out.below⟩
def imaginaryN : Nat := 19681161376707505956807079304988542015446066515923890162744021073123829784752
theorem num_imaginary : [14190309331451158704, 3405592160176694392, 3120150775007532967, 3135389899092516619] = num imaginaryN := by decide
set_option maxHeartbeats 1000000 in
set_option maxRecDepth 100000 in
theorem impl_imaginary.calls (w : World) :
    Calls Try.prog 76 #[] w fun e w' => e = .returned (.agg (arr .u64 (num imaginaryN))) ∧ Below w.heap.size w w' := by
  rw [← num_imaginary]
  go_enter Try.func76, Try.ntmps76
  go_wp2
  exact bodyPost_ret (results_cell_row Try.results76 _ _ w.heap.size 34 _ (0, 0) _ rfl (blk_new w _) Try.underlying34 rfl (by kernel_rfl)) rfl ⟨by rfl, below_alloc (Below.refl _ _) _⟩
end Go.Proofs.Ytlajcahlmbjmnaa.XQ
