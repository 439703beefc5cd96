-- Written by a program of this session (xp.py over the kit's printer, with functions proved by hand). Lean checks it.
import Derived.Test.YtijeackkgcnbgaaXOx0
import Derived.Test.YtijeackkgcnbgaaXOx1
import Derived.Test.YtijeackkgcnbgaaXOx2
import Derived.Test.YtijeackkgcnbgaaXOx3
namespace Go.Proofs.Ytijeackkgcnbgaa.XO
open Go.Proofs.Ytijeackkgcnbgaa.Limb Go.Proofs.Ytijeackkgcnbgaa.Arr Go.Proofs.Ytijeackkgcnbgaa.FldA Go.Proofs.Ytijeackkgcnbgaa.FldB Go.Proofs.Ytijeackkgcnbgaa.FldC Go.Proofs.Ytijeackkgcnbgaa.FldS Go.Proofs.Ytijeackkgcnbgaa.FldP Go.Proofs.Ytijeackkgcnbgaa.FldW Go.Proofs.Ytijeackkgcnbgaa.FldM Go.Proofs.Ytijeackkgcnbgaa.FldT Go.Proofs.Ytijeackkgcnbgaa.FldRoot Go.Proofs.Ytijeackkgcnbgaa.FldRoot2 Go.Proofs.Ytijeackkgcnbgaa.FldPt Go.Proofs.Ytijeackkgcnbgaa.St Go.Proofs.Ytijeackkgcnbgaa.StOps Go.Proofs.Ytijeackkgcnbgaa.StMid Go.Proofs.Ytijeackkgcnbgaa.StEq Go.Proofs.Ytijeackkgcnbgaa.StPt Go.Proofs.Ytijeackkgcnbgaa.StIdx
open Go.RowKit Go.Proofs.YtijeackkgcnbgaaW.PrintWords Go.Proofs.YtijeackkgcnbgaaW.PrintLast Go.Proofs.YtijeackkgcnbgaaW.PrintMore
attribute [local go_sem] max2_int min2_int max_two min_two max_three min_three max_four min_four   -- for this text's walks alone
set_option linter.unusedVariables false
set_option linter.unusedSimpArgs false

/-! ### spec_l05Point1: function 74 -/
def zP : List Int := [0, 0, 0, 0, 0, 0, 0, 0, 0, 0, 0, 0, 0, 0, 0, 0, 0, 0, 0, 0, 0, 0, 0, 0, 0, 0, 0, 0, 0, 0, 0, 0, 0, 0, 0, 0, 0, 0, 0, 0, 0, 0, 0, 0, 0, 0, 0, 0, 0, 0, 0, 0, 0, 0, 0, 0, 0, 0, 0, 0, 0, 0, 0, 0]
def feP (x y z t : Nat) : List Int := fe x ++ (fe y ++ (fe z ++ fe t))
theorem feP_length (x y z t : Nat) : (feP x y z t).length = 64 := by simp [feP, fe_length]
theorem build_fe (x y z t : Nat) (W : World) :
    (Instr.build 64 #[(0, .agg (arr .i64 (fe x))), (1, .agg (arr .i64 (fe y))), (2, .agg (arr .i64 (fe z))), (3, .agg (arr .i64 (fe t)))]).run Try.prog W = .ok (.agg (arr .i64 (feP x y z t))) W := by
  have h : ∀ xs ys zs ts : List Int, xs.length = 16 → ys.length = 16 → zs.length = 16 → ts.length = 16 → (Instr.build 64 #[(0, .agg (arr .i64 xs)), (1, .agg (arr .i64 ys)), (2, .agg (arr .i64 zs)), (3, .agg (arr .i64 ts))]).run Try.prog W = .ok (.agg (arr .i64 (xs ++ (ys ++ (zs ++ ts))))) W := by
    intro xs ys zs ts hx hy hz ht
    match xs, ys, zs, ts, hx, hy, hz, ht with
    | [a0, a1, a2, a3, a4, a5, a6, a7, a8, a9, a10, a11, a12, a13, a14, a15], [b0, b1, b2, b3, b4, b5, b6, b7, b8, b9, b10, b11, b12, b13, b14, b15], [c0, c1, c2, c3, c4, c5, c6, c7, c8, c9, c10, c11, c12, c13, c14, c15], [d0, d1, d2, d3, d4, d5, d6, d7, d8, d9, d10, d11, d12, d13, d14, d15], _, _, _, _ =>
      simp only [arr, List.map_cons, List.map_nil, List.cons_append, List.nil_append]
      go_simp
  exact h _ _ _ _ (fe_length _) (fe_length _) (fe_length _) (fe_length _)
def PtPost (l : List Int) (e : Ending) : Prop := ∃ cx ct, cx < BB ∧ ct < BB ∧ (okP l = true → cx % PP = pXv l ∧ ct % PP = pXv l * pYv l % PP) ∧ e = .returned (.tuple #[.agg (arr .i64 (if okP l = true then feP cx (pYv l) 1 ct else zP)), .bool (okP l)])
theorem PtPost_no {l : List Int} (h : okP l = false) : PtPost l (.returned (.tuple #[.agg (arr .i64 zP), .bool false])) :=
  ⟨0, 0, by decide, by decide, fun h2 => by rw [h] at h2; exact absurd h2 (by decide), by rw [h, if_neg (by decide)]⟩
theorem PtPost_yes {l : List Int} (h : okP l = true) (x y cx ct : Nat) (hx : pXv l = x) (hy : pYv l = y) (h1 : cx < BB) (h2 : ct < BB) (h3 : cx % PP = x) (h4 : ct % PP = x * y % PP) : PtPost l (.returned (.tuple #[.agg (arr .i64 (feP cx y 1 ct)), .bool true])) :=
  ⟨cx, ct, h1, h2, fun _ => ⟨by rw [hx]; exact h3, by rw [hx, hy]; exact h4⟩, by rw [h, if_pos rfl, hy]⟩
set_option maxHeartbeats 4000000 in
set_option maxRecDepth 100000 in
theorem spec_l05Point1.calls (A0 : Option Addr) (c0 : Nat) (l : List Int) (w : World) (hr0 : Kd.C (Kd.int .u8) w A0 l.length l) (hc0 : l.length ≤ c0) (ho : okB l = true) :
    Calls Try.prog 74 #[.slice A0 l.length c0] w fun e w' => PtPost l e ∧ Below w.heap.size w w' := by
  have S := Aside0.mk ((St.start w).push rfl 64 .i64 zP)
  by_cases hl : l.length = 32
  · have hPB : PP < BB := by decide
    obtain ⟨Wa, hWa⟩ : ∃ Wa, Wa = w.alloc (.cells (arr .i64 zP) 64) := ⟨_, rfl⟩
    have HRa := Aside0.mk (Kd.C_below hr0 (below_alloc (Below.refl w.heap.size w) (.cells (arr .i64 zP) 64)))
    have HWs := Aside0.mk (show Wa.heap.size = w.heap.size + 1 from by rw [hWa, World.size_alloc])
    rw [← hWa] at HRa S
    have HWa := Aside0.mk hWa
    clear hWa
    have infoE : (Try.prog.info? 5).map (fun i => (i.zero, i.size, i.bytes)) = some (some (.int .u8 0), 1, 1) := by kernel_rfl
    have INFO := Aside0.mk infoE
    clear infoE
    have Ny := Aside0.mk (show l = [] ++ l from rfl)
    have hll : (l.length : Int) = 32 := by omega
    have HLW := Aside0.mk hl
    have OKL := Aside0.mk (lowB_ok (okB_ok l ho))
    have hbb := okB_ok l ho (l.getD 31 0) (by rw [List.getD_eq_getElem?_getD, List.getElem?_eq_getElem (by omega)]; exact List.getElem_mem _)
    have HIE := Aside0.mk (fun g c W (hW : Kd.C (Kd.int .u8) W (some ⟨g, 0, none⟩) (lowB l).length (lowB l)) (hc : (lowB l).length ≤ c) => spec_l05Is.calls (some ⟨g, 0, none⟩) c (lowB l) (isEl (lowB l)) W hW hc (by
      unfold spec_l05Is.f
      rw [if_pos (by rw [okB, List.all_eq_true]; intro x hx; have := OKL.out x hx; rw [decide_eq_true this.1, decide_eq_true (show x < 256 from this.2)]; rfl)]))
    have HEO := Aside0.mk (fun g c W (hW : Kd.C (Kd.int .u8) W (some ⟨g, 0, none⟩) (lowB l).length (lowB l)) => spec_l05Of.calls (some ⟨g, 0, none⟩) c (lowB l) W hW (by rw [lowB_length]; omega) OKL.out)
    rw [ofS_fe _ OKL.out (by rw [lowB_length]; omega)] at HEO
    have HLS := Aside0.mk (show l.set 31 (l.getD 31 0 % 128) = lowB l from rfl)
    have sgb : decide (128 ≤ l.getD 31 0) = sgB l := rfl
    rw [lowB_length, hl] at HIE HEO
    obtain ⟨b, hb_⟩ : ∃ b, b = l.getD 31 0 := ⟨_, rfl⟩
    obtain ⟨lo, hlo⟩ : ∃ lo, lo = b % 128 := ⟨_, rfl⟩
    obtain ⟨sv, hsv⟩ : ∃ sv, sv = b / 128 := ⟨_, rfl⟩
    have HBD := Aside0.mk hb_
    rw [← hb_] at sgb hbb
    rw [← hb_, ← hlo] at HLS
    have b0 := hbb.1
    have b1 : b < 256 := hbb.2
    have q1 : b % 128 = lo := hlo.symm
    have q2 : b.tmod 128 = lo := by rw [Int.tmod_eq_emod_of_nonneg b0]; exact q1
    have q3 : b / 128 = sv := hsv.symm
    have q4 : b.tdiv 128 = sv := by rw [Int.tdiv_eq_ediv_of_nonneg b0]; exact q3
    have sv0 : 0 ≤ sv := by omega
    have sv1 : sv < 2 := by omega
    have HSV : Aside0 ((sv == 1) = sgB l) := ⟨by
      rw [← sgb]
      by_cases h : 128 ≤ b
      · rw [decide_eq_true h, show sv = 1 by omega]; rfl
      · rw [decide_eq_false h, show sv = 0 by omega]; rfl⟩
    have lo0 : 0 ≤ lo := by omega
    have lo1 : lo < 128 := by omega
    clear hb_ hlo hbb hsv sgb
    by_cases he : isEl (lowB l) = true
    · have hy0 : bval (lowB l) < PP := by
        have := he
        unfold isEl at this
        rw [Bool.and_eq_true, decide_eq_true_iff] at this
        exact of_decide_eq_true this.2
      have hYB : pYv l < BB := Nat.lt_trans hy0 hPB
      have hPY : bval (lowB l) = pYv l := rfl
      rw [he] at HIE
      rw [hPY] at HEO
      have HY0 := Aside0.mk (show pYv l < PP from hy0)
      have HYB := Aside0.mk hYB
      have HYY := Aside0.mk (fun W => spec_l05Mul.calls (pYv l) (pYv l) W hYB hYB)
      have H1 := Aside0.mk (fun W => (show Calls Try.prog 89 #[.int .i64 1] W _ from spec_l05Small.calls 1 W (by decide)))
      have EQ := Aside0.mk (show pYv l * pYv l % PP = pQ (pYv l) from rfl)
      have F1 := Aside0.mk (fun h => okP_rt (l := l) h)
      have F2 := Aside0.mk (fun h h2 => okP_zero (l := l) h h2)
      have F3 := Aside0.mk (fun h h2 => okP_true (l := l) he h h2)
      have F5 := Aside0.mk (fun h => pXv_sg (l := l) h)
      have F6 := Aside0.mk (fun h => pXv_no (l := l) h)
      have E1 := Aside0.mk (show pN (pYv l) = (pQ (pYv l) + PP - 1) % PP from rfl)
      have E2 := Aside0.mk (show pM (pYv l) = cuN * pQ (pYv l) % PP from rfl)
      have E3 := Aside0.mk (show pD (pYv l) = (pM (pYv l) + 1) % PP from rfl)
      have E4 := Aside0.mk (show pI (pYv l) = pD (pYv l) ^ (PP - 2) % PP from rfl)
      have E5 := Aside0.mk (show pXX (pYv l) = pN (pYv l) * pI (pYv l) % PP from rfl)
      have E6' := Aside0.mk (show rtX (pYv l) = if rtOk (pXX (pYv l)) = true then rtV (pXX (pYv l)) else 0 from rfl)
      have HQL := Aside0.mk (pQ_lt (pYv l))
      clear he hy0 hPY hYB hc0 hr0 ho hl
      generalize rtX (pYv l) = x0 at *
      generalize pXX (pYv l) = xx at *
      generalize pI (pYv l) = ii at *
      generalize pN (pYv l) = nn at *
      generalize pD (pYv l) = dd at *
      generalize pM (pYv l) = m at *
      generalize pQ (pYv l) = qq at *
      generalize hyy : pYv l = y at *
      have HPY := Aside0.mk hyy
      clear hyy
      have K42 := Aside0.mk (fun W => spec_l05D.calls W)
      have K46 := Aside0.mk (fun c (hc : c < BB) (hm : c % PP = m) W => (show Calls Try.prog 47 #[.agg (arr .i64 (fe c)), .agg (arr .i64 (fe 1))] W fun e w' => ∃ d, d < BB ∧ d % PP = dd ∧ e = .returned (.agg (arr .i64 (fe d))) ∧ Below W.heap.size W w' from by
        have h := spec_l05Add.calls c 1 W hc (by decide)
        rw [Nat.add_mod, hm, show 1 % PP = 1 from by decide, ← E3.out] at h
        exact h))
      have K47 := Aside0.mk (fun c (hc : c < BB) (hm : c % PP = dd) W => (show Calls Try.prog 67 #[.agg (arr .i64 (fe c))] W fun e w' => ∃ d, d < BB ∧ d % PP = ii ∧ e = .returned (.agg (arr .i64 (fe d))) ∧ Below W.heap.size W w' from by
        have h := spec_l05Inverse.calls c W hc
        rw [Nat.pow_mod, hm, ← E4.out] at h
        exact h))
      have K48 := Aside0.mk (fun c (hc : c < BB) (hm : c % PP = nn) d (hd : d < BB) (hn : d % PP = ii) W => (show Calls Try.prog 64 #[.agg (arr .i64 (fe c)), .agg (arr .i64 (fe d))] W fun e w' => ∃ d, d < BB ∧ d % PP = xx ∧ e = .returned (.agg (arr .i64 (fe d))) ∧ Below W.heap.size W w' from by
        have h := spec_l05Mul.calls c d W hc hd
        rw [Nat.mul_mod, hm, hn, ← E5.out] at h
        exact h))
      have KR := Aside0.mk (fun c (hc : c < BB) (hm : c % PP = xx) W => (show Calls Try.prog 72 #[.agg (arr .i64 (fe c))] W fun e w' => ∃ d, d < BB ∧ d % PP = x0 ∧ e = .returned (.tuple #[.agg (arr .i64 (fe d)), .bool (rtOk xx)]) ∧ Below W.heap.size W w' from by
        have h := spec_l05Root.calls c W hc
        rw [hm, ← E6'.out] at h
        exact h))
      have KZ := Aside0.mk (fun c (hc : c < BB) (hm : c % PP = x0) W => (show Calls Try.prog 66 #[.agg (arr .i64 (fe c))] W fun e w' => e = .returned (.bool (decide (x0 = 0))) ∧ Below W.heap.size W w' from by
        have h := spec_l05Zero.calls c W hc
        rw [hm] at h
        exact h))
      have KU := Aside0.mk (fun c (hc : c < BB) (hm : c % PP = x0) W => (show Calls Try.prog 53 #[.agg #[.int .i64 0, .int .i64 0, .int .i64 0, .int .i64 0, .int .i64 0, .int .i64 0, .int .i64 0, .int .i64 0, .int .i64 0, .int .i64 0, .int .i64 0, .int .i64 0, .int .i64 0, .int .i64 0, .int .i64 0, .int .i64 0], .agg (arr .i64 (fe c))] W fun e w' => ∃ d, d < BB ∧ d % PP = (PP - x0) % PP ∧ e = .returned (.agg (arr .i64 (fe d))) ∧ Below W.heap.size W w' from by
        have h := spec_l05Sub.calls 0 c W (by decide) hc
        rw [show fe 0 = [0, 0, 0, 0, 0, 0, 0, 0, 0, 0, 0, 0, 0, 0, 0, 0] from by decide] at h
        refine h.mono ?_
        rintro e w' ⟨d, h1, h2, h3, h4⟩
        exact ⟨d, h1, by rw [FldRoot.neg_mod2 d c h2, hm], h3, h4⟩))
      have KT := Aside0.mk (fun xv c (hc : c < BB) (hm : c % PP = xv) W => (show Calls Try.prog 64 #[.agg (arr .i64 (fe c)), .agg (arr .i64 (fe y))] W fun e w' => ∃ d, d < BB ∧ d % PP = xv * y % PP ∧ e = .returned (.agg (arr .i64 (fe d))) ∧ Below W.heap.size W w' from by
        have h := spec_l05Mul.calls c y W hc HYB.out
        rw [Nat.mul_mod, hm, Nat.mod_eq_of_lt HY0.out] at h
        exact h))
      have KN := Aside0.mk (fun q (hq : q < BB) (hm : q % PP = qq) W => (show Calls Try.prog 53 #[.agg (arr .i64 (fe q)), .agg (arr .i64 (fe 1))] W fun e w' => ∃ d, d < BB ∧ d % PP = nn ∧ e = .returned (.agg (arr .i64 (fe d))) ∧ Below W.heap.size W w' from by
        have h := spec_l05Sub.calls q 1 W hq (by decide)
        refine h.mono ?_
        rintro e w' ⟨d, h1, h2, h3, h4⟩
        refine ⟨d, h1, ?_, h3, h4⟩
        have g1 := Nat.mod_lt d FldP.PP_pos
        rw [Nat.add_mod, hm, show 1 % PP = 1 from by decide] at h2
        rw [E1.out]
        have g2 := HQL.out
        clear h hm E1 hq E2 E3 E4 E5 E6' h3 h4 h1
        generalize d % PP = r at *
        have g3 : 1 < PP := by decide
        generalize PP = p at *
        rcases Nat.lt_or_ge (r + 1) p with g | g
        · rw [Nat.mod_eq_of_lt g] at h2
          rw [show qq + p - 1 = r + p by omega, Nat.add_mod_right, Nat.mod_eq_of_lt g1]
        · rw [show r + 1 = p by omega, Nat.mod_self] at h2
          rw [show qq + p - 1 = r by omega, Nat.mod_eq_of_lt g1]))
      have KM := Aside0.mk (fun q (hq : q < BB) (hqm : q % PP = qq) c (hc : c < BB) (hm : c % PP = cuN) W => (show Calls Try.prog 64 #[.agg (arr .i64 (fe c)), .agg (arr .i64 (fe q))] W fun e w' => ∃ d, d < BB ∧ d % PP = m ∧ e = .returned (.agg (arr .i64 (fe d))) ∧ Below W.heap.size W w' from by
        have h := spec_l05Mul.calls c q W hc hq
        rw [Nat.mul_mod, hm, hqm, ← E2.out] at h
        exact h))
      have HXL := Aside0.mk hPB
      generalize rtOk xx = ok at *
      clear E1 E2 E3 E4 E5 E6'
      generalize sgB l = sg at *
      clear hPB
      go_enter Try.func74, Try.ntmps74
      go_wp2_with (first
        | ((with_reducible refine gate_dst (N := 16) rfl ?_); refine Kd.R_lit (Kd.int .u8) _ 5 ?hg (N := 16) ?hd (xs := []) (inner := []) (ok := fun _ => True) (okp := fun _ => True) ?hr ?hp (fun _ hk => hk) trivial (Below.refl _ _) (Nat.le_refl _) (by simp) ?_; (case hd => rfl); (case hg => rfl); (case hr => first | (go_simp; done) | (go_simp; rfl)); (case hp => exact Reps.none _ _); intro v126 w5 ho6 hb hg_ hnew_; clear hg_ hnew_; have HO5 : Aside0 ((Kd.int .u8).R 5 w5 Wa.heap.size (fun _ => True) v126 []) := ⟨(by rw [HWa.out]; exact ho6)⟩; have HB5 : Aside0 (Below Wa.heap.size Wa w5) := ⟨(by rw [HWa.out]; exact hb)⟩; clear hb ho6)
        | ((with_reducible refine gate_builtin (b := .append) (xs := #[.tmp 16, .tmp 17]) rfl ?_); at_builtin; refine Kd.R_append_rows (Kd.int .u8) (w0 := Wa) Wa.heap.size rfl (.tmp 16) (.tmp 17) 22 5 (.int .u8 0) 1 rfl Try.underlying22 INFO.out rfl (by decide) (by decide) v126 [] l _ _ _ (fun _ => True) (fun _ => False) rfl rfl ?aO ?aR (fun _ _ h => h) (fun _ h => h.elim) ?aF ?aB ?aS ?aL ?_; (case aR => exact (Kd.C_below HRa.out HB5.out)); (case aB => exact HB5.out); (case aF => exact (fun _ _ => trivial)); (case aO => exact HO5.out); (case aS => exact (below_size HB5.out)); (case aL => have := HLW.out; simp only [List.length_nil, Nat.zero_add]; omega); intro v129 w1 hR hb hg hat; rw [← Ny.out] at hR; obtain ⟨go, co, eo, gb, gl, _, HGc⟩ := Kd.R_form hR (by omega); rw [HLW.out] at eo; subst eo; have GB := Aside0.mk gb; rw [HWa.out, World.size_alloc] at GB; have S1 := Aside0.mk (S.out.stepB (by have := HWs.out; simp only [List.nil_append, List.length_singleton, ← this]; exact hb)); have hx0 : w1.cell? ⟨go, 31, none⟩ = some (.int .u8 b) := (by rw [HBD.out]; exact (Kd.R_celln 0 hR (31 : Int) (by omega) (by omega)).1); have hf0 : w1.frozen? ⟨go, 31, none⟩ = false := (Kd.R_celln 0 hR (31 : Int) (by omega) (by omega)).2; have HP31 : Aside0 ((Kd.int .u8).R 5 (w1.setCell ⟨go, 31, none⟩ (.int .u8 lo)) Wa.heap.size (fun _ => True) (.slice (some ⟨go, 0, none⟩) 32 co) (lowB l)) := ⟨(by rw [← HLS.out]; exact (Kd.R_putg hR (31 : Int) lo).1)⟩; have HC3 := Aside0.mk (Kd.R_reads' HP31.out).2.2; have HCO := Aside0.mk (Kd.R_reads' HP31.out).2.1; rw [lowB_length, HLW.out] at HC3; clear hb hR gb gl HGc hg hat)
        | ((with_reducible refine (HIE.out _ _ _ HC3.out HCO.out).mono ?_); rintro e w2 ⟨rfl, hb⟩; have S2 := Aside0.mk ((St_far S1.out go 31 _ GB.out).step hb); have HC4 := Aside0.mk (Kd.C_below HC3.out hb); clear hb)
        | ((with_reducible refine (HEO.out _ _ _ HC4.out).mono ?_); rintro e w3 ⟨rfl, hb⟩; have S3 := Aside0.mk (S2.out.step hb); clear hb)
        | (refine st_arr rfl 40 (.tmp 6) (.tmp 34) rfl w3.heap.size (xs := fe y) rfl rfl (blk_new w3 (.cells (arr .i64 z16) 40)) (m := 16) (by kernel_rfl) (fe_length _) (by rw [fe_length]; rfl) ?_; intro w4 h1 h2 h4 h3; have A4 := Aside0.mk h1; have S4 := Aside0.mk (St.other (S3.out.alloc (.cells (arr .i64 z16) 40)) h2 h3 S3.out.size); clear h1 h2 h3 h4)
        | ((with_reducible refine gate_dst (N := 35) rfl ?_); refine ld_arr rfl 40 (.tmp 6) rfl w3.heap.size rfl A4.out Try.underlying40 (m := 16) (by kernel_rfl) (fe_length _) ?_)
        | ((with_reducible refine gate_dst (N := 36) rfl ?_); refine ld_arr rfl 40 (.tmp 6) rfl w3.heap.size rfl A4.out Try.underlying40 (m := 16) (by kernel_rfl) (fe_length _) ?_)
        | ((with_reducible refine (HYY.out _).mono ?_); rintro e w5 ⟨q, hql, hqm, rfl, hb⟩; have S5 := Aside0.mk (S4.out.step hb); have A5 := Aside0.mk (blk_below A4.out hb); clear hb)
        | (refine st_arr rfl 40 (.tmp 7) (.tmp 37) rfl w5.heap.size (xs := fe q) rfl rfl (blk_new w5 (.cells (arr .i64 z16) 40)) (m := 16) (by kernel_rfl) (fe_length _) (by rw [fe_length]; rfl) ?_; intro w6 h1 h2 h4 h3; have B6 := Aside0.mk h1; have S6 := Aside0.mk (St.other (S5.out.alloc (.cells (arr .i64 z16) 40)) h2 h3 S5.out.size); have A6 := Aside0.mk ((h2 _ (ne_of_blk A5.out)).trans (blk_alloc A5.out _)); clear h1 h2 h3 h4)
        | ((with_reducible refine (H1.out _).mono ?_); rintro e w7 ⟨rfl, hb⟩; have S7 := Aside0.mk (S6.out.step hb); have A7 := Aside0.mk (blk_below A6.out hb); have B7 := Aside0.mk (blk_below B6.out hb); clear hb)
        | (refine st_arr rfl 40 (.tmp 8) (.tmp 38) rfl w7.heap.size (xs := fe 1) rfl rfl (blk_new w7 (.cells (arr .i64 z16) 40)) (m := 16) (by kernel_rfl) (fe_length _) (by rw [fe_length]; rfl) ?_; intro w8 h1 h2 h4 h3; have C8 := Aside0.mk h1; have S8 := Aside0.mk (St.other (S7.out.alloc (.cells (arr .i64 z16) 40)) h2 h3 S7.out.size); have A8 := Aside0.mk ((h2 _ (ne_of_blk A7.out)).trans (blk_alloc A7.out _)); have B8 := Aside0.mk ((h2 _ (ne_of_blk B7.out)).trans (blk_alloc B7.out _)); clear h1 h2 h3 h4))
      rw [EQ.out] at hqm
      have K41 := Aside0.mk (KN.out q hql hqm)
      have K44 := Aside0.mk (KM.out q hql hqm)
      have E6 := Aside0.mk S3.out.size
      generalize w3.heap.size = g6 at *
      generalize w5.heap.size = g7 at *
      generalize w7.heap.size = g8 at *
      have U := Aside0.mk S8.out.drew
      have A := Aside0.mk (blk_drew A8.out)
      have B := Aside0.mk (blk_drew B8.out)
      have C := Aside0.mk (blk_drew C8.out)
      clear S1 S2 S3 S4 S5 S6 S7 S8 A4 A5 A6 A7 A8 B6 B7 B8 C8 HIE HEO HYY HP31 HC3 HC4 HCO GB hx0 hf0 HO5 HB5 KN KM H1
      refine start_ (n := 12) (S := fun w' => St w [⟨64, .i64, zP⟩] w' ∧ w'.heap[g6]? = some (.cells (arr .i64 (fe y)) 40 (0, 0)) ∧ w'.heap[g7]? = some (.cells (arr .i64 (fe q)) 40 (0, 0)) ∧ w'.heap[g8]? = some (.cells (arr .i64 (fe 1)) 40 (0, 0))) (ds := []) #[false, false, false, false, false, false, false, false, false, false, false, false] (by kernel_rfl) rfl rfl ⟨U.out, A.out, B.out, C.out⟩ (fun hHeld => ?_)
      refine take_ (i := 0) (N := some 39) (v := ?_) (a' := ?_) #[true, false, false, false, false, false, false, false, false, false, false, false] rfl rfl (by kernel_rfl) (fun _ _ _ h => h) (Or.inl ⟨by rfl, ?_⟩) hHeld ?_ ?_
      rotate_left
      · rintro w' ⟨s0, s1, s2, s3⟩
        refine (run_ld 40 (.tmp 7) (by rfl) g7 (by rfl) s2 Try.underlying40 (m := 16) (by kernel_rfl) (fe_length _)).trans ?_; with_reducible rfl
      rotate_left
      · simp only [Act.put, OpenRow.s1, OpenRow.s2, OpenRow.s3, i64_w, i32_w]; rfl
      refine take_ (i := 1) (N := some 40) (v := ?_) (a' := ?_) #[true, true, false, false, false, false, false, false, false, false, false, false] rfl rfl (by kernel_rfl) (fun _ _ _ h => h) (Or.inl ⟨by rfl, ?_⟩) hHeld ?_ ?_
      rotate_left
      · rintro w' ⟨s0, s1, s2, s3⟩
        refine (run_ld 40 (.tmp 8) (by rfl) g8 (by rfl) s3 Try.underlying40 (m := 16) (by kernel_rfl) (fe_length _)).trans ?_; with_reducible rfl
      rotate_left
      · simp only [Act.put, OpenRow.s1, OpenRow.s2, OpenRow.s3, i64_w, i32_w]; rfl
      refine take_ (i := 4) (N := some 43) (v := ?_) (a' := ?_) #[true, true, false, false, true, false, false, false, false, false, false, false] rfl rfl (by kernel_rfl) (fun _ _ _ h => h) (Or.inl ⟨by rfl, ?_⟩) hHeld ?_ ?_
      rotate_left
      · rintro w' ⟨s0, s1, s2, s3⟩
        refine (run_ld 40 (.tmp 7) (by rfl) g7 (by rfl) s2 Try.underlying40 (m := 16) (by kernel_rfl) (fe_length _)).trans ?_; with_reducible rfl
      rotate_left
      · simp only [Act.put, OpenRow.s1, OpenRow.s2, OpenRow.s3, i64_w, i32_w]; rfl
      refine take_ (i := 6) (N := some 45) (v := ?_) (a' := ?_) #[true, true, false, false, true, false, true, false, false, false, false, false] rfl rfl (by kernel_rfl) (fun _ _ _ h => h) (Or.inl ⟨by rfl, ?_⟩) hHeld ?_ ?_
      rotate_left
      · rintro w' ⟨s0, s1, s2, s3⟩
        refine (run_ld 40 (.tmp 8) (by rfl) g8 (by rfl) s3 Try.underlying40 (m := 16) (by kernel_rfl) (fe_length _)).trans ?_; with_reducible rfl
      rotate_left
      · simp only [Act.put, OpenRow.s1, OpenRow.s2, OpenRow.s3, i64_w, i32_w]; rfl
      refine join_ (σ := Nat × Nat × Nat × Nat × Nat × Nat × Nat) 1 #[true, true, true, true, true, true, true, true, true, true, true, false] (fun s_ => [(41, .agg (arr .i64 (fe (s_.1)))), (42, .agg (arr .i64 (fe (s_.2.1)))), (44, .agg (arr .i64 (fe (s_.2.2.1)))), (46, .agg (arr .i64 (fe (s_.2.2.2.1)))), (47, .agg (arr .i64 (fe (s_.2.2.2.2.1)))), (48, .agg (arr .i64 (fe (s_.2.2.2.2.2.1)))), (9, .pointer (some ⟨s_.2.2.2.2.2.2, 0, none⟩))]) (fun s_ w' => (St w [⟨64, .i64, zP⟩] w') ∧ (w'.heap[g6]? = some (.cells (arr .i64 (fe y)) 40 (0, 0))) ∧ (w'.heap[g7]? = some (.cells (arr .i64 (fe q)) 40 (0, 0))) ∧ (w'.heap[g8]? = some (.cells (arr .i64 (fe 1)) 40 (0, 0))) ∧ w'.heap[s_.2.2.2.2.2.2]? = some (.cells (arr .i64 z16) 40 (0, 0)) ∧ w.heap.size + 1 ≤ s_.2.2.2.2.2.2 ∧ g6 ≠ s_.2.2.2.2.2.2 ∧ g7 ≠ s_.2.2.2.2.2.2 ∧ g8 ≠ s_.2.2.2.2.2.2 ∧ ((s_.2.2.2.2.2.1) < BB) ∧ ((s_.2.2.2.2.2.1) % PP = xx)) ?_ ?_
      rotate_left
      · intro hCont
        refine two_ (i := 2) (j := 10) (Ni := some 41) (Nj := some 9) #[true, true, true, false, true, false, true, false, false, false, false, false] #[true, true, false, false, true, false, true, false, false, false, true, false] rfl rfl rfl rfl (by kernel_rfl) (by decide) (by decide) (fun K hK => ?_) (fun K hK => ?_)
        · skip
          refine goes_ Try.func53 (by kernel_rfl) rfl #[.agg (arr .i64 (fe q)), .agg (arr .i64 (fe 1))] (by rfl) rfl rfl (by simp only [List.map_toArray, List.map_cons, List.map_nil] <;> rfl) ?_
          with_reducible refine (K41.out _).mono ?_
          rintro e w3 ⟨c41, hl41, hm41, rfl, hb⟩
          refine ⟨_, rfl, ?_⟩
          have U_2 := Aside0.mk (U.out.step hb)
          have A_2 := Aside0.mk (blk_below A.out hb)
          have B_2 := Aside0.mk (blk_below B.out hb)
          have C_2 := Aside0.mk (blk_below C.out hb)
          clear hb
          refine hK.out _ _ ⟨U_2.out, A_2.out, B_2.out, C_2.out⟩ (fun hHeld => ?_)
          clear hK K
          refine norm_ (a' := ?_) ?_ ?_
          rotate_left
          · show Act.put _ (some 41) _ = _
            simp only [Act.put, OpenRow.s1, OpenRow.s2, OpenRow.s3, i64_w, i32_w]
            rfl
          refine two_ (i := 3) (j := 10) (Ni := some 42) (Nj := some 9) #[true, true, true, true, true, false, true, false, false, false, false, false] #[true, true, true, false, true, false, true, false, false, false, true, false] rfl rfl rfl rfl (by kernel_rfl) (by decide) (by decide) (fun K hK => ?_) (fun K hK => ?_)
          · skip
            refine goes_ Try.func100 (by kernel_rfl) rfl #[] (by rfl) rfl rfl (by simp only [List.map_toArray, List.map_cons, List.map_nil] <;> rfl) ?_
            with_reducible refine (K42.out _).mono ?_
            rintro e w3 ⟨c42, hl42, hm42, rfl, hb⟩
            refine ⟨_, rfl, ?_⟩
            have U_2_3 := Aside0.mk (U_2.out.step hb)
            have A_2_3 := Aside0.mk (blk_below A_2.out hb)
            have B_2_3 := Aside0.mk (blk_below B_2.out hb)
            have C_2_3 := Aside0.mk (blk_below C_2.out hb)
            clear hb
            refine hK.out _ _ ⟨U_2_3.out, A_2_3.out, B_2_3.out, C_2_3.out⟩ (fun hHeld => ?_)
            clear hK K
            refine norm_ (a' := ?_) ?_ ?_
            rotate_left
            · show Act.put _ (some 42) _ = _
              simp only [Act.put, OpenRow.s1, OpenRow.s2, OpenRow.s3, i64_w, i32_w]
              rfl
            refine two_ (i := 5) (j := 10) (Ni := some 44) (Nj := some 9) #[true, true, true, true, true, true, true, false, false, false, false, false] #[true, true, true, true, true, false, true, false, false, false, true, false] rfl rfl rfl rfl (by kernel_rfl) (by decide) (by decide) (fun K hK => ?_) (fun K hK => ?_)
            · skip
              refine goes_ Try.func64 (by kernel_rfl) rfl #[.agg (arr .i64 (fe c42)), .agg (arr .i64 (fe q))] (by rfl) rfl rfl (by simp only [List.map_toArray, List.map_cons, List.map_nil] <;> rfl) ?_
              with_reducible refine (K44.out c42 hl42 hm42 _).mono ?_
              rintro e w3 ⟨c44, hl44, hm44, rfl, hb⟩
              refine ⟨_, rfl, ?_⟩
              have U_2_3_5 := Aside0.mk (U_2_3.out.step hb)
              have A_2_3_5 := Aside0.mk (blk_below A_2_3.out hb)
              have B_2_3_5 := Aside0.mk (blk_below B_2_3.out hb)
              have C_2_3_5 := Aside0.mk (blk_below C_2_3.out hb)
              clear hb
              refine hK.out _ _ ⟨U_2_3_5.out, A_2_3_5.out, B_2_3_5.out, C_2_3_5.out⟩ (fun hHeld => ?_)
              clear hK K
              refine norm_ (a' := ?_) ?_ ?_
              rotate_left
              · show Act.put _ (some 44) _ = _
                simp only [Act.put, OpenRow.s1, OpenRow.s2, OpenRow.s3, i64_w, i32_w]
                rfl
              refine two_ (i := 7) (j := 10) (Ni := some 46) (Nj := some 9) #[true, true, true, true, true, true, true, true, false, false, false, false] #[true, true, true, true, true, true, true, false, false, false, true, false] rfl rfl rfl rfl (by kernel_rfl) (by decide) (by decide) (fun K hK => ?_) (fun K hK => ?_)
              · skip
                refine goes_ Try.func47 (by kernel_rfl) rfl #[.agg (arr .i64 (fe c44)), .agg (arr .i64 (fe 1))] (by rfl) rfl rfl (by simp only [List.map_toArray, List.map_cons, List.map_nil] <;> rfl) ?_
                with_reducible refine (K46.out c44 hl44 hm44 _).mono ?_
                rintro e w3 ⟨c46, hl46, hm46, rfl, hb⟩
                refine ⟨_, rfl, ?_⟩
                have U_2_3_5_7 := Aside0.mk (U_2_3_5.out.step hb)
                have A_2_3_5_7 := Aside0.mk (blk_below A_2_3_5.out hb)
                have B_2_3_5_7 := Aside0.mk (blk_below B_2_3_5.out hb)
                have C_2_3_5_7 := Aside0.mk (blk_below C_2_3_5.out hb)
                clear hb
                refine hK.out _ _ ⟨U_2_3_5_7.out, A_2_3_5_7.out, B_2_3_5_7.out, C_2_3_5_7.out⟩ (fun hHeld => ?_)
                clear hK K
                refine norm_ (a' := ?_) ?_ ?_
                rotate_left
                · show Act.put _ (some 46) _ = _
                  simp only [Act.put, OpenRow.s1, OpenRow.s2, OpenRow.s3, i64_w, i32_w]
                  rfl
                refine two_ (i := 8) (j := 10) (Ni := some 47) (Nj := some 9) #[true, true, true, true, true, true, true, true, true, false, false, false] #[true, true, true, true, true, true, true, true, false, false, true, false] rfl rfl rfl rfl (by kernel_rfl) (by decide) (by decide) (fun K hK => ?_) (fun K hK => ?_)
                · skip
                  refine goes_ Try.func67 (by kernel_rfl) rfl #[.agg (arr .i64 (fe c46))] (by rfl) rfl rfl (by simp only [List.map_toArray, List.map_cons, List.map_nil] <;> rfl) ?_
                  with_reducible refine (K47.out c46 hl46 hm46 _).mono ?_
                  rintro e w3 ⟨c47, hl47, hm47, rfl, hb⟩
                  refine ⟨_, rfl, ?_⟩
                  have U_2_3_5_7_8 := Aside0.mk (U_2_3_5_7.out.step hb)
                  have A_2_3_5_7_8 := Aside0.mk (blk_below A_2_3_5_7.out hb)
                  have B_2_3_5_7_8 := Aside0.mk (blk_below B_2_3_5_7.out hb)
                  have C_2_3_5_7_8 := Aside0.mk (blk_below C_2_3_5_7.out hb)
                  clear hb
                  refine hK.out _ _ ⟨U_2_3_5_7_8.out, A_2_3_5_7_8.out, B_2_3_5_7_8.out, C_2_3_5_7_8.out⟩ (fun hHeld => ?_)
                  clear hK K
                  refine norm_ (a' := ?_) ?_ ?_
                  rotate_left
                  · show Act.put _ (some 47) _ = _
                    simp only [Act.put, OpenRow.s1, OpenRow.s2, OpenRow.s3, i64_w, i32_w]
                    rfl
                  refine two_ (i := 9) (j := 10) (Ni := some 48) (Nj := some 9) #[true, true, true, true, true, true, true, true, true, true, false, false] #[true, true, true, true, true, true, true, true, true, false, true, false] rfl rfl rfl rfl (by kernel_rfl) (by decide) (by decide) (fun K hK => ?_) (fun K hK => ?_)
                  · skip
                    refine goes_ Try.func64 (by kernel_rfl) rfl #[.agg (arr .i64 (fe c41)), .agg (arr .i64 (fe c47))] (by rfl) rfl rfl (by simp only [List.map_toArray, List.map_cons, List.map_nil] <;> rfl) ?_
                    with_reducible refine (K48.out c41 hl41 hm41 c47 hl47 hm47 _).mono ?_
                    rintro e w3 ⟨c48, hl48, hm48, rfl, hb⟩
                    refine ⟨_, rfl, ?_⟩
                    have U_2_3_5_7_8_9 := Aside0.mk (U_2_3_5_7_8.out.step hb)
                    have A_2_3_5_7_8_9 := Aside0.mk (blk_below A_2_3_5_7_8.out hb)
                    have B_2_3_5_7_8_9 := Aside0.mk (blk_below B_2_3_5_7_8.out hb)
                    have C_2_3_5_7_8_9 := Aside0.mk (blk_below C_2_3_5_7_8.out hb)
                    clear hb
                    refine hK.out _ _ ⟨U_2_3_5_7_8_9.out, A_2_3_5_7_8_9.out, B_2_3_5_7_8_9.out, C_2_3_5_7_8_9.out⟩ (fun hHeld => ?_)
                    clear hK K
                    refine norm_ (a' := ?_) ?_ ?_
                    rotate_left
                    · show Act.put _ (some 48) _ = _
                      simp only [Act.put, OpenRow.s1, OpenRow.s2, OpenRow.s3, i64_w, i32_w]
                      rfl
                    refine one_ (i := 10) (N := some 9) #[true, true, true, true, true, true, true, true, true, true, true, false] rfl rfl (by kernel_rfl) (by decide) (fun K hK => ?_)
                    refine value_ (w1 := ?_) (v := ?_) (by rfl) rfl ?_ ?_
                    rotate_left 2
                    · go_simp
                      constructor
                      · rfl
                      · rfl
                    have U_2_3_5_7_8_9_10 := Aside0.mk (U_2_3_5_7_8_9.out.alloc (.cells (arr .i64 z16) 40))
                    have A_2_3_5_7_8_9_10 := Aside0.mk (blk_alloc A_2_3_5_7_8_9.out (.cells (arr .i64 z16) 40))
                    have B_2_3_5_7_8_9_10 := Aside0.mk (blk_alloc B_2_3_5_7_8_9.out (.cells (arr .i64 z16) 40))
                    have C_2_3_5_7_8_9_10 := Aside0.mk (blk_alloc C_2_3_5_7_8_9.out (.cells (arr .i64 z16) 40))
                    have G10_2_3_5_7_8_9_10 := Aside0.mk (U_2_3_5_7_8_9.out.new (.cells (arr .i64 z16) 40))
                    have E10 := Aside0.mk U_2_3_5_7_8_9.out.size
                    have M10_0 := Aside0.mk (ne_of_blk A_2_3_5_7_8_9.out)
                    have M10_1 := Aside0.mk (ne_of_blk B_2_3_5_7_8_9.out)
                    have M10_2 := Aside0.mk (ne_of_blk C_2_3_5_7_8_9.out)
                    refine hK.out _ _ ⟨U_2_3_5_7_8_9_10.out, A_2_3_5_7_8_9_10.out, B_2_3_5_7_8_9_10.out, C_2_3_5_7_8_9_10.out⟩ (fun hHeld => ?_)
                    clear hK K
                    refine norm_ (a' := ?_) ?_ ?_
                    rotate_left
                    · show Act.put _ (some 9) _ = _
                      simp only [Act.put, OpenRow.s1, OpenRow.s2, OpenRow.s3, i64_w, i32_w]
                      rfl
                    exact norm_ (by simp only [putAll, Act.put, List.setIfInBounds_toArray, List.set_cons_zero, List.set_cons_succ] <;> rfl) (hCont (c41, (c42, (c44, (c46, (c47, (c48, _)))))) _ ⟨U_2_3_5_7_8_9_10.out, A_2_3_5_7_8_9_10.out, B_2_3_5_7_8_9_10.out, C_2_3_5_7_8_9_10.out, G10_2_3_5_7_8_9_10.out, E10.out, M10_0.out, M10_1.out, M10_2.out, hl48, hm48⟩)
                  · skip
                    refine value_ (w1 := ?_) (v := ?_) (by rfl) rfl ?_ ?_
                    rotate_left 2
                    · go_simp
                      constructor
                      · rfl
                      · rfl
                    have U_2_3_5_7_8_10 := Aside0.mk (U_2_3_5_7_8.out.alloc (.cells (arr .i64 z16) 40))
                    have A_2_3_5_7_8_10 := Aside0.mk (blk_alloc A_2_3_5_7_8.out (.cells (arr .i64 z16) 40))
                    have B_2_3_5_7_8_10 := Aside0.mk (blk_alloc B_2_3_5_7_8.out (.cells (arr .i64 z16) 40))
                    have C_2_3_5_7_8_10 := Aside0.mk (blk_alloc C_2_3_5_7_8.out (.cells (arr .i64 z16) 40))
                    have G10_2_3_5_7_8_10 := Aside0.mk (U_2_3_5_7_8.out.new (.cells (arr .i64 z16) 40))
                    have E10 := Aside0.mk U_2_3_5_7_8.out.size
                    have M10_0 := Aside0.mk (ne_of_blk A_2_3_5_7_8.out)
                    have M10_1 := Aside0.mk (ne_of_blk B_2_3_5_7_8.out)
                    have M10_2 := Aside0.mk (ne_of_blk C_2_3_5_7_8.out)
                    refine hK.out _ _ ⟨U_2_3_5_7_8_10.out, A_2_3_5_7_8_10.out, B_2_3_5_7_8_10.out, C_2_3_5_7_8_10.out⟩ (fun hHeld => ?_)
                    clear hK K
                    refine norm_ (a' := ?_) ?_ ?_
                    rotate_left
                    · show Act.put _ (some 9) _ = _
                      simp only [Act.put, OpenRow.s1, OpenRow.s2, OpenRow.s3, i64_w, i32_w]
                      rfl
                    refine one_ (i := 9) (N := some 48) #[true, true, true, true, true, true, true, true, true, true, true, false] rfl rfl (by kernel_rfl) (by decide) (fun K hK => ?_)
                    refine goes_ Try.func64 (by kernel_rfl) rfl #[.agg (arr .i64 (fe c41)), .agg (arr .i64 (fe c47))] (by rfl) rfl rfl (by simp only [List.map_toArray, List.map_cons, List.map_nil] <;> rfl) ?_
                    with_reducible refine (K48.out c41 hl41 hm41 c47 hl47 hm47 _).mono ?_
                    rintro e w3 ⟨c48, hl48, hm48, rfl, hb⟩
                    refine ⟨_, rfl, ?_⟩
                    have U_2_3_5_7_8_10_9 := Aside0.mk (U_2_3_5_7_8_10.out.step hb)
                    have A_2_3_5_7_8_10_9 := Aside0.mk (blk_below A_2_3_5_7_8_10.out hb)
                    have B_2_3_5_7_8_10_9 := Aside0.mk (blk_below B_2_3_5_7_8_10.out hb)
                    have C_2_3_5_7_8_10_9 := Aside0.mk (blk_below C_2_3_5_7_8_10.out hb)
                    have G10_2_3_5_7_8_10_9 := Aside0.mk (blk_below G10_2_3_5_7_8_10.out hb)
                    clear hb
                    refine hK.out _ _ ⟨U_2_3_5_7_8_10_9.out, A_2_3_5_7_8_10_9.out, B_2_3_5_7_8_10_9.out, C_2_3_5_7_8_10_9.out⟩ (fun hHeld => ?_)
                    clear hK K
                    refine norm_ (a' := ?_) ?_ ?_
                    rotate_left
                    · show Act.put _ (some 48) _ = _
                      simp only [Act.put, OpenRow.s1, OpenRow.s2, OpenRow.s3, i64_w, i32_w]
                      rfl
                    exact norm_ (by simp only [putAll, Act.put, List.setIfInBounds_toArray, List.set_cons_zero, List.set_cons_succ] <;> rfl) (hCont (c41, (c42, (c44, (c46, (c47, (c48, _)))))) _ ⟨U_2_3_5_7_8_10_9.out, A_2_3_5_7_8_10_9.out, B_2_3_5_7_8_10_9.out, C_2_3_5_7_8_10_9.out, G10_2_3_5_7_8_10_9.out, E10.out, M10_0.out, M10_1.out, M10_2.out, hl48, hm48⟩)
                · skip
                  refine value_ (w1 := ?_) (v := ?_) (by rfl) rfl ?_ ?_
                  rotate_left 2
                  · go_simp
                    constructor
                    · rfl
                    · rfl
                  have U_2_3_5_7_10 := Aside0.mk (U_2_3_5_7.out.alloc (.cells (arr .i64 z16) 40))
                  have A_2_3_5_7_10 := Aside0.mk (blk_alloc A_2_3_5_7.out (.cells (arr .i64 z16) 40))
                  have B_2_3_5_7_10 := Aside0.mk (blk_alloc B_2_3_5_7.out (.cells (arr .i64 z16) 40))
                  have C_2_3_5_7_10 := Aside0.mk (blk_alloc C_2_3_5_7.out (.cells (arr .i64 z16) 40))
                  have G10_2_3_5_7_10 := Aside0.mk (U_2_3_5_7.out.new (.cells (arr .i64 z16) 40))
                  have E10 := Aside0.mk U_2_3_5_7.out.size
                  have M10_0 := Aside0.mk (ne_of_blk A_2_3_5_7.out)
                  have M10_1 := Aside0.mk (ne_of_blk B_2_3_5_7.out)
                  have M10_2 := Aside0.mk (ne_of_blk C_2_3_5_7.out)
                  refine hK.out _ _ ⟨U_2_3_5_7_10.out, A_2_3_5_7_10.out, B_2_3_5_7_10.out, C_2_3_5_7_10.out⟩ (fun hHeld => ?_)
                  clear hK K
                  refine norm_ (a' := ?_) ?_ ?_
                  rotate_left
                  · show Act.put _ (some 9) _ = _
                    simp only [Act.put, OpenRow.s1, OpenRow.s2, OpenRow.s3, i64_w, i32_w]
                    rfl
                  refine one_ (i := 8) (N := some 47) #[true, true, true, true, true, true, true, true, true, false, true, false] rfl rfl (by kernel_rfl) (by decide) (fun K hK => ?_)
                  refine goes_ Try.func67 (by kernel_rfl) rfl #[.agg (arr .i64 (fe c46))] (by rfl) rfl rfl (by simp only [List.map_toArray, List.map_cons, List.map_nil] <;> rfl) ?_
                  with_reducible refine (K47.out c46 hl46 hm46 _).mono ?_
                  rintro e w3 ⟨c47, hl47, hm47, rfl, hb⟩
                  refine ⟨_, rfl, ?_⟩
                  have U_2_3_5_7_10_8 := Aside0.mk (U_2_3_5_7_10.out.step hb)
                  have A_2_3_5_7_10_8 := Aside0.mk (blk_below A_2_3_5_7_10.out hb)
                  have B_2_3_5_7_10_8 := Aside0.mk (blk_below B_2_3_5_7_10.out hb)
                  have C_2_3_5_7_10_8 := Aside0.mk (blk_below C_2_3_5_7_10.out hb)
                  have G10_2_3_5_7_10_8 := Aside0.mk (blk_below G10_2_3_5_7_10.out hb)
                  clear hb
                  refine hK.out _ _ ⟨U_2_3_5_7_10_8.out, A_2_3_5_7_10_8.out, B_2_3_5_7_10_8.out, C_2_3_5_7_10_8.out⟩ (fun hHeld => ?_)
                  clear hK K
                  refine norm_ (a' := ?_) ?_ ?_
                  rotate_left
                  · show Act.put _ (some 47) _ = _
                    simp only [Act.put, OpenRow.s1, OpenRow.s2, OpenRow.s3, i64_w, i32_w]
                    rfl
                  refine one_ (i := 9) (N := some 48) #[true, true, true, true, true, true, true, true, true, true, true, false] rfl rfl (by kernel_rfl) (by decide) (fun K hK => ?_)
                  refine goes_ Try.func64 (by kernel_rfl) rfl #[.agg (arr .i64 (fe c41)), .agg (arr .i64 (fe c47))] (by rfl) rfl rfl (by simp only [List.map_toArray, List.map_cons, List.map_nil] <;> rfl) ?_
                  with_reducible refine (K48.out c41 hl41 hm41 c47 hl47 hm47 _).mono ?_
                  rintro e w3 ⟨c48, hl48, hm48, rfl, hb⟩
                  refine ⟨_, rfl, ?_⟩
                  have U_2_3_5_7_10_8_9 := Aside0.mk (U_2_3_5_7_10_8.out.step hb)
                  have A_2_3_5_7_10_8_9 := Aside0.mk (blk_below A_2_3_5_7_10_8.out hb)
                  have B_2_3_5_7_10_8_9 := Aside0.mk (blk_below B_2_3_5_7_10_8.out hb)
                  have C_2_3_5_7_10_8_9 := Aside0.mk (blk_below C_2_3_5_7_10_8.out hb)
                  have G10_2_3_5_7_10_8_9 := Aside0.mk (blk_below G10_2_3_5_7_10_8.out hb)
                  clear hb
                  refine hK.out _ _ ⟨U_2_3_5_7_10_8_9.out, A_2_3_5_7_10_8_9.out, B_2_3_5_7_10_8_9.out, C_2_3_5_7_10_8_9.out⟩ (fun hHeld => ?_)
                  clear hK K
                  refine norm_ (a' := ?_) ?_ ?_
                  rotate_left
                  · show Act.put _ (some 48) _ = _
                    simp only [Act.put, OpenRow.s1, OpenRow.s2, OpenRow.s3, i64_w, i32_w]
                    rfl
                  exact norm_ (by simp only [putAll, Act.put, List.setIfInBounds_toArray, List.set_cons_zero, List.set_cons_succ] <;> rfl) (hCont (c41, (c42, (c44, (c46, (c47, (c48, _)))))) _ ⟨U_2_3_5_7_10_8_9.out, A_2_3_5_7_10_8_9.out, B_2_3_5_7_10_8_9.out, C_2_3_5_7_10_8_9.out, G10_2_3_5_7_10_8_9.out, E10.out, M10_0.out, M10_1.out, M10_2.out, hl48, hm48⟩)
              · skip
                refine value_ (w1 := ?_) (v := ?_) (by rfl) rfl ?_ ?_
                rotate_left 2
                · go_simp
                  constructor
                  · rfl
                  · rfl
                have U_2_3_5_10 := Aside0.mk (U_2_3_5.out.alloc (.cells (arr .i64 z16) 40))
                have A_2_3_5_10 := Aside0.mk (blk_alloc A_2_3_5.out (.cells (arr .i64 z16) 40))
                have B_2_3_5_10 := Aside0.mk (blk_alloc B_2_3_5.out (.cells (arr .i64 z16) 40))
                have C_2_3_5_10 := Aside0.mk (blk_alloc C_2_3_5.out (.cells (arr .i64 z16) 40))
                have G10_2_3_5_10 := Aside0.mk (U_2_3_5.out.new (.cells (arr .i64 z16) 40))
                have E10 := Aside0.mk U_2_3_5.out.size
                have M10_0 := Aside0.mk (ne_of_blk A_2_3_5.out)
                have M10_1 := Aside0.mk (ne_of_blk B_2_3_5.out)
                have M10_2 := Aside0.mk (ne_of_blk C_2_3_5.out)
                refine hK.out _ _ ⟨U_2_3_5_10.out, A_2_3_5_10.out, B_2_3_5_10.out, C_2_3_5_10.out⟩ (fun hHeld => ?_)
                clear hK K
                refine norm_ (a' := ?_) ?_ ?_
                rotate_left
                · show Act.put _ (some 9) _ = _
                  simp only [Act.put, OpenRow.s1, OpenRow.s2, OpenRow.s3, i64_w, i32_w]
                  rfl
                refine one_ (i := 7) (N := some 46) #[true, true, true, true, true, true, true, true, false, false, true, false] rfl rfl (by kernel_rfl) (by decide) (fun K hK => ?_)
                refine goes_ Try.func47 (by kernel_rfl) rfl #[.agg (arr .i64 (fe c44)), .agg (arr .i64 (fe 1))] (by rfl) rfl rfl (by simp only [List.map_toArray, List.map_cons, List.map_nil] <;> rfl) ?_
                with_reducible refine (K46.out c44 hl44 hm44 _).mono ?_
                rintro e w3 ⟨c46, hl46, hm46, rfl, hb⟩
                refine ⟨_, rfl, ?_⟩
                have U_2_3_5_10_7 := Aside0.mk (U_2_3_5_10.out.step hb)
                have A_2_3_5_10_7 := Aside0.mk (blk_below A_2_3_5_10.out hb)
                have B_2_3_5_10_7 := Aside0.mk (blk_below B_2_3_5_10.out hb)
                have C_2_3_5_10_7 := Aside0.mk (blk_below C_2_3_5_10.out hb)
                have G10_2_3_5_10_7 := Aside0.mk (blk_below G10_2_3_5_10.out hb)
                clear hb
                refine hK.out _ _ ⟨U_2_3_5_10_7.out, A_2_3_5_10_7.out, B_2_3_5_10_7.out, C_2_3_5_10_7.out⟩ (fun hHeld => ?_)
                clear hK K
                refine norm_ (a' := ?_) ?_ ?_
                rotate_left
                · show Act.put _ (some 46) _ = _
                  simp only [Act.put, OpenRow.s1, OpenRow.s2, OpenRow.s3, i64_w, i32_w]
                  rfl
                refine one_ (i := 8) (N := some 47) #[true, true, true, true, true, true, true, true, true, false, true, false] rfl rfl (by kernel_rfl) (by decide) (fun K hK => ?_)
                refine goes_ Try.func67 (by kernel_rfl) rfl #[.agg (arr .i64 (fe c46))] (by rfl) rfl rfl (by simp only [List.map_toArray, List.map_cons, List.map_nil] <;> rfl) ?_
                with_reducible refine (K47.out c46 hl46 hm46 _).mono ?_
                rintro e w3 ⟨c47, hl47, hm47, rfl, hb⟩
                refine ⟨_, rfl, ?_⟩
                have U_2_3_5_10_7_8 := Aside0.mk (U_2_3_5_10_7.out.step hb)
                have A_2_3_5_10_7_8 := Aside0.mk (blk_below A_2_3_5_10_7.out hb)
                have B_2_3_5_10_7_8 := Aside0.mk (blk_below B_2_3_5_10_7.out hb)
                have C_2_3_5_10_7_8 := Aside0.mk (blk_below C_2_3_5_10_7.out hb)
                have G10_2_3_5_10_7_8 := Aside0.mk (blk_below G10_2_3_5_10_7.out hb)
                clear hb
                refine hK.out _ _ ⟨U_2_3_5_10_7_8.out, A_2_3_5_10_7_8.out, B_2_3_5_10_7_8.out, C_2_3_5_10_7_8.out⟩ (fun hHeld => ?_)
                clear hK K
                refine norm_ (a' := ?_) ?_ ?_
                rotate_left
                · show Act.put _ (some 47) _ = _
                  simp only [Act.put, OpenRow.s1, OpenRow.s2, OpenRow.s3, i64_w, i32_w]
                  rfl
                refine one_ (i := 9) (N := some 48) #[true, true, true, true, true, true, true, true, true, true, true, false] rfl rfl (by kernel_rfl) (by decide) (fun K hK => ?_)
                refine goes_ Try.func64 (by kernel_rfl) rfl #[.agg (arr .i64 (fe c41)), .agg (arr .i64 (fe c47))] (by rfl) rfl rfl (by simp only [List.map_toArray, List.map_cons, List.map_nil] <;> rfl) ?_
                with_reducible refine (K48.out c41 hl41 hm41 c47 hl47 hm47 _).mono ?_
                rintro e w3 ⟨c48, hl48, hm48, rfl, hb⟩
                refine ⟨_, rfl, ?_⟩
                have U_2_3_5_10_7_8_9 := Aside0.mk (U_2_3_5_10_7_8.out.step hb)
                have A_2_3_5_10_7_8_9 := Aside0.mk (blk_below A_2_3_5_10_7_8.out hb)
                have B_2_3_5_10_7_8_9 := Aside0.mk (blk_below B_2_3_5_10_7_8.out hb)
                have C_2_3_5_10_7_8_9 := Aside0.mk (blk_below C_2_3_5_10_7_8.out hb)
                have G10_2_3_5_10_7_8_9 := Aside0.mk (blk_below G10_2_3_5_10_7_8.out hb)
                clear hb
                refine hK.out _ _ ⟨U_2_3_5_10_7_8_9.out, A_2_3_5_10_7_8_9.out, B_2_3_5_10_7_8_9.out, C_2_3_5_10_7_8_9.out⟩ (fun hHeld => ?_)
                clear hK K
                refine norm_ (a' := ?_) ?_ ?_
                rotate_left
                · show Act.put _ (some 48) _ = _
                  simp only [Act.put, OpenRow.s1, OpenRow.s2, OpenRow.s3, i64_w, i32_w]
                  rfl
                exact norm_ (by simp only [putAll, Act.put, List.setIfInBounds_toArray, List.set_cons_zero, List.set_cons_succ] <;> rfl) (hCont (c41, (c42, (c44, (c46, (c47, (c48, _)))))) _ ⟨U_2_3_5_10_7_8_9.out, A_2_3_5_10_7_8_9.out, B_2_3_5_10_7_8_9.out, C_2_3_5_10_7_8_9.out, G10_2_3_5_10_7_8_9.out, E10.out, M10_0.out, M10_1.out, M10_2.out, hl48, hm48⟩)
            · skip
              refine value_ (w1 := ?_) (v := ?_) (by rfl) rfl ?_ ?_
              rotate_left 2
              · go_simp
                constructor
                · rfl
                · rfl
              have U_2_3_10 := Aside0.mk (U_2_3.out.alloc (.cells (arr .i64 z16) 40))
              have A_2_3_10 := Aside0.mk (blk_alloc A_2_3.out (.cells (arr .i64 z16) 40))
              have B_2_3_10 := Aside0.mk (blk_alloc B_2_3.out (.cells (arr .i64 z16) 40))
              have C_2_3_10 := Aside0.mk (blk_alloc C_2_3.out (.cells (arr .i64 z16) 40))
              have G10_2_3_10 := Aside0.mk (U_2_3.out.new (.cells (arr .i64 z16) 40))
              have E10 := Aside0.mk U_2_3.out.size
              have M10_0 := Aside0.mk (ne_of_blk A_2_3.out)
              have M10_1 := Aside0.mk (ne_of_blk B_2_3.out)
              have M10_2 := Aside0.mk (ne_of_blk C_2_3.out)
              refine hK.out _ _ ⟨U_2_3_10.out, A_2_3_10.out, B_2_3_10.out, C_2_3_10.out⟩ (fun hHeld => ?_)
              clear hK K
              refine norm_ (a' := ?_) ?_ ?_
              rotate_left
              · show Act.put _ (some 9) _ = _
                simp only [Act.put, OpenRow.s1, OpenRow.s2, OpenRow.s3, i64_w, i32_w]
                rfl
              refine one_ (i := 5) (N := some 44) #[true, true, true, true, true, true, true, false, false, false, true, false] rfl rfl (by kernel_rfl) (by decide) (fun K hK => ?_)
              refine goes_ Try.func64 (by kernel_rfl) rfl #[.agg (arr .i64 (fe c42)), .agg (arr .i64 (fe q))] (by rfl) rfl rfl (by simp only [List.map_toArray, List.map_cons, List.map_nil] <;> rfl) ?_
              with_reducible refine (K44.out c42 hl42 hm42 _).mono ?_
              rintro e w3 ⟨c44, hl44, hm44, rfl, hb⟩
              refine ⟨_, rfl, ?_⟩
              have U_2_3_10_5 := Aside0.mk (U_2_3_10.out.step hb)
              have A_2_3_10_5 := Aside0.mk (blk_below A_2_3_10.out hb)
              have B_2_3_10_5 := Aside0.mk (blk_below B_2_3_10.out hb)
              have C_2_3_10_5 := Aside0.mk (blk_below C_2_3_10.out hb)
              have G10_2_3_10_5 := Aside0.mk (blk_below G10_2_3_10.out hb)
              clear hb
              refine hK.out _ _ ⟨U_2_3_10_5.out, A_2_3_10_5.out, B_2_3_10_5.out, C_2_3_10_5.out⟩ (fun hHeld => ?_)
              clear hK K
              refine norm_ (a' := ?_) ?_ ?_
              rotate_left
              · show Act.put _ (some 44) _ = _
                simp only [Act.put, OpenRow.s1, OpenRow.s2, OpenRow.s3, i64_w, i32_w]
                rfl
              refine one_ (i := 7) (N := some 46) #[true, true, true, true, true, true, true, true, false, false, true, false] rfl rfl (by kernel_rfl) (by decide) (fun K hK => ?_)
              refine goes_ Try.func47 (by kernel_rfl) rfl #[.agg (arr .i64 (fe c44)), .agg (arr .i64 (fe 1))] (by rfl) rfl rfl (by simp only [List.map_toArray, List.map_cons, List.map_nil] <;> rfl) ?_
              with_reducible refine (K46.out c44 hl44 hm44 _).mono ?_
              rintro e w3 ⟨c46, hl46, hm46, rfl, hb⟩
              refine ⟨_, rfl, ?_⟩
              have U_2_3_10_5_7 := Aside0.mk (U_2_3_10_5.out.step hb)
              have A_2_3_10_5_7 := Aside0.mk (blk_below A_2_3_10_5.out hb)
              have B_2_3_10_5_7 := Aside0.mk (blk_below B_2_3_10_5.out hb)
              have C_2_3_10_5_7 := Aside0.mk (blk_below C_2_3_10_5.out hb)
              have G10_2_3_10_5_7 := Aside0.mk (blk_below G10_2_3_10_5.out hb)
              clear hb
              refine hK.out _ _ ⟨U_2_3_10_5_7.out, A_2_3_10_5_7.out, B_2_3_10_5_7.out, C_2_3_10_5_7.out⟩ (fun hHeld => ?_)
              clear hK K
              refine norm_ (a' := ?_) ?_ ?_
              rotate_left
              · show Act.put _ (some 46) _ = _
                simp only [Act.put, OpenRow.s1, OpenRow.s2, OpenRow.s3, i64_w, i32_w]
                rfl
              refine one_ (i := 8) (N := some 47) #[true, true, true, true, true, true, true, true, true, false, true, false] rfl rfl (by kernel_rfl) (by decide) (fun K hK => ?_)
              refine goes_ Try.func67 (by kernel_rfl) rfl #[.agg (arr .i64 (fe c46))] (by rfl) rfl rfl (by simp only [List.map_toArray, List.map_cons, List.map_nil] <;> rfl) ?_
              with_reducible refine (K47.out c46 hl46 hm46 _).mono ?_
              rintro e w3 ⟨c47, hl47, hm47, rfl, hb⟩
              refine ⟨_, rfl, ?_⟩
              have U_2_3_10_5_7_8 := Aside0.mk (U_2_3_10_5_7.out.step hb)
              have A_2_3_10_5_7_8 := Aside0.mk (blk_below A_2_3_10_5_7.out hb)
              have B_2_3_10_5_7_8 := Aside0.mk (blk_below B_2_3_10_5_7.out hb)
              have C_2_3_10_5_7_8 := Aside0.mk (blk_below C_2_3_10_5_7.out hb)
              have G10_2_3_10_5_7_8 := Aside0.mk (blk_below G10_2_3_10_5_7.out hb)
              clear hb
              refine hK.out _ _ ⟨U_2_3_10_5_7_8.out, A_2_3_10_5_7_8.out, B_2_3_10_5_7_8.out, C_2_3_10_5_7_8.out⟩ (fun hHeld => ?_)
              clear hK K
              refine norm_ (a' := ?_) ?_ ?_
              rotate_left
              · show Act.put _ (some 47) _ = _
                simp only [Act.put, OpenRow.s1, OpenRow.s2, OpenRow.s3, i64_w, i32_w]
                rfl
              refine one_ (i := 9) (N := some 48) #[true, true, true, true, true, true, true, true, true, true, true, false] rfl rfl (by kernel_rfl) (by decide) (fun K hK => ?_)
              refine goes_ Try.func64 (by kernel_rfl) rfl #[.agg (arr .i64 (fe c41)), .agg (arr .i64 (fe c47))] (by rfl) rfl rfl (by simp only [List.map_toArray, List.map_cons, List.map_nil] <;> rfl) ?_
              with_reducible refine (K48.out c41 hl41 hm41 c47 hl47 hm47 _).mono ?_
              rintro e w3 ⟨c48, hl48, hm48, rfl, hb⟩
              refine ⟨_, rfl, ?_⟩
              have U_2_3_10_5_7_8_9 := Aside0.mk (U_2_3_10_5_7_8.out.step hb)
              have A_2_3_10_5_7_8_9 := Aside0.mk (blk_below A_2_3_10_5_7_8.out hb)
              have B_2_3_10_5_7_8_9 := Aside0.mk (blk_below B_2_3_10_5_7_8.out hb)
              have C_2_3_10_5_7_8_9 := Aside0.mk (blk_below C_2_3_10_5_7_8.out hb)
              have G10_2_3_10_5_7_8_9 := Aside0.mk (blk_below G10_2_3_10_5_7_8.out hb)
              clear hb
              refine hK.out _ _ ⟨U_2_3_10_5_7_8_9.out, A_2_3_10_5_7_8_9.out, B_2_3_10_5_7_8_9.out, C_2_3_10_5_7_8_9.out⟩ (fun hHeld => ?_)
              clear hK K
              refine norm_ (a' := ?_) ?_ ?_
              rotate_left
              · show Act.put _ (some 48) _ = _
                simp only [Act.put, OpenRow.s1, OpenRow.s2, OpenRow.s3, i64_w, i32_w]
                rfl
              exact norm_ (by simp only [putAll, Act.put, List.setIfInBounds_toArray, List.set_cons_zero, List.set_cons_succ] <;> rfl) (hCont (c41, (c42, (c44, (c46, (c47, (c48, _)))))) _ ⟨U_2_3_10_5_7_8_9.out, A_2_3_10_5_7_8_9.out, B_2_3_10_5_7_8_9.out, C_2_3_10_5_7_8_9.out, G10_2_3_10_5_7_8_9.out, E10.out, M10_0.out, M10_1.out, M10_2.out, hl48, hm48⟩)
          · skip
            refine value_ (w1 := ?_) (v := ?_) (by rfl) rfl ?_ ?_
            rotate_left 2
            · go_simp
              constructor
              · rfl
              · rfl
            have U_2_10 := Aside0.mk (U_2.out.alloc (.cells (arr .i64 z16) 40))
            have A_2_10 := Aside0.mk (blk_alloc A_2.out (.cells (arr .i64 z16) 40))
            have B_2_10 := Aside0.mk (blk_alloc B_2.out (.cells (arr .i64 z16) 40))
            have C_2_10 := Aside0.mk (blk_alloc C_2.out (.cells (arr .i64 z16) 40))
            have G10_2_10 := Aside0.mk (U_2.out.new (.cells (arr .i64 z16) 40))
            have E10 := Aside0.mk U_2.out.size
            have M10_0 := Aside0.mk (ne_of_blk A_2.out)
            have M10_1 := Aside0.mk (ne_of_blk B_2.out)
            have M10_2 := Aside0.mk (ne_of_blk C_2.out)
            refine hK.out _ _ ⟨U_2_10.out, A_2_10.out, B_2_10.out, C_2_10.out⟩ (fun hHeld => ?_)
            clear hK K
            refine norm_ (a' := ?_) ?_ ?_
            rotate_left
            · show Act.put _ (some 9) _ = _
              simp only [Act.put, OpenRow.s1, OpenRow.s2, OpenRow.s3, i64_w, i32_w]
              rfl
            refine one_ (i := 3) (N := some 42) #[true, true, true, true, true, false, true, false, false, false, true, false] rfl rfl (by kernel_rfl) (by decide) (fun K hK => ?_)
            refine goes_ Try.func100 (by kernel_rfl) rfl #[] (by rfl) rfl rfl (by simp only [List.map_toArray, List.map_cons, List.map_nil] <;> rfl) ?_
            with_reducible refine (K42.out _).mono ?_
            rintro e w3 ⟨c42, hl42, hm42, rfl, hb⟩
            refine ⟨_, rfl, ?_⟩
            have U_2_10_3 := Aside0.mk (U_2_10.out.step hb)
            have A_2_10_3 := Aside0.mk (blk_below A_2_10.out hb)
            have B_2_10_3 := Aside0.mk (blk_below B_2_10.out hb)
            have C_2_10_3 := Aside0.mk (blk_below C_2_10.out hb)
            have G10_2_10_3 := Aside0.mk (blk_below G10_2_10.out hb)
            clear hb
            refine hK.out _ _ ⟨U_2_10_3.out, A_2_10_3.out, B_2_10_3.out, C_2_10_3.out⟩ (fun hHeld => ?_)
            clear hK K
            refine norm_ (a' := ?_) ?_ ?_
            rotate_left
            · show Act.put _ (some 42) _ = _
              simp only [Act.put, OpenRow.s1, OpenRow.s2, OpenRow.s3, i64_w, i32_w]
              rfl
            refine one_ (i := 5) (N := some 44) #[true, true, true, true, true, true, true, false, false, false, true, false] rfl rfl (by kernel_rfl) (by decide) (fun K hK => ?_)
            refine goes_ Try.func64 (by kernel_rfl) rfl #[.agg (arr .i64 (fe c42)), .agg (arr .i64 (fe q))] (by rfl) rfl rfl (by simp only [List.map_toArray, List.map_cons, List.map_nil] <;> rfl) ?_
            with_reducible refine (K44.out c42 hl42 hm42 _).mono ?_
            rintro e w3 ⟨c44, hl44, hm44, rfl, hb⟩
            refine ⟨_, rfl, ?_⟩
            have U_2_10_3_5 := Aside0.mk (U_2_10_3.out.step hb)
            have A_2_10_3_5 := Aside0.mk (blk_below A_2_10_3.out hb)
            have B_2_10_3_5 := Aside0.mk (blk_below B_2_10_3.out hb)
            have C_2_10_3_5 := Aside0.mk (blk_below C_2_10_3.out hb)
            have G10_2_10_3_5 := Aside0.mk (blk_below G10_2_10_3.out hb)
            clear hb
            refine hK.out _ _ ⟨U_2_10_3_5.out, A_2_10_3_5.out, B_2_10_3_5.out, C_2_10_3_5.out⟩ (fun hHeld => ?_)
            clear hK K
            refine norm_ (a' := ?_) ?_ ?_
            rotate_left
            · show Act.put _ (some 44) _ = _
              simp only [Act.put, OpenRow.s1, OpenRow.s2, OpenRow.s3, i64_w, i32_w]
              rfl
            refine one_ (i := 7) (N := some 46) #[true, true, true, true, true, true, true, true, false, false, true, false] rfl rfl (by kernel_rfl) (by decide) (fun K hK => ?_)
            refine goes_ Try.func47 (by kernel_rfl) rfl #[.agg (arr .i64 (fe c44)), .agg (arr .i64 (fe 1))] (by rfl) rfl rfl (by simp only [List.map_toArray, List.map_cons, List.map_nil] <;> rfl) ?_
            with_reducible refine (K46.out c44 hl44 hm44 _).mono ?_
            rintro e w3 ⟨c46, hl46, hm46, rfl, hb⟩
            refine ⟨_, rfl, ?_⟩
            have U_2_10_3_5_7 := Aside0.mk (U_2_10_3_5.out.step hb)
            have A_2_10_3_5_7 := Aside0.mk (blk_below A_2_10_3_5.out hb)
            have B_2_10_3_5_7 := Aside0.mk (blk_below B_2_10_3_5.out hb)
            have C_2_10_3_5_7 := Aside0.mk (blk_below C_2_10_3_5.out hb)
            have G10_2_10_3_5_7 := Aside0.mk (blk_below G10_2_10_3_5.out hb)
            clear hb
            refine hK.out _ _ ⟨U_2_10_3_5_7.out, A_2_10_3_5_7.out, B_2_10_3_5_7.out, C_2_10_3_5_7.out⟩ (fun hHeld => ?_)
            clear hK K
            refine norm_ (a' := ?_) ?_ ?_
            rotate_left
            · show Act.put _ (some 46) _ = _
              simp only [Act.put, OpenRow.s1, OpenRow.s2, OpenRow.s3, i64_w, i32_w]
              rfl
            refine one_ (i := 8) (N := some 47) #[true, true, true, true, true, true, true, true, true, false, true, false] rfl rfl (by kernel_rfl) (by decide) (fun K hK => ?_)
            refine goes_ Try.func67 (by kernel_rfl) rfl #[.agg (arr .i64 (fe c46))] (by rfl) rfl rfl (by simp only [List.map_toArray, List.map_cons, List.map_nil] <;> rfl) ?_
            with_reducible refine (K47.out c46 hl46 hm46 _).mono ?_
            rintro e w3 ⟨c47, hl47, hm47, rfl, hb⟩
            refine ⟨_, rfl, ?_⟩
            have U_2_10_3_5_7_8 := Aside0.mk (U_2_10_3_5_7.out.step hb)
            have A_2_10_3_5_7_8 := Aside0.mk (blk_below A_2_10_3_5_7.out hb)
            have B_2_10_3_5_7_8 := Aside0.mk (blk_below B_2_10_3_5_7.out hb)
            have C_2_10_3_5_7_8 := Aside0.mk (blk_below C_2_10_3_5_7.out hb)
            have G10_2_10_3_5_7_8 := Aside0.mk (blk_below G10_2_10_3_5_7.out hb)
            clear hb
            refine hK.out _ _ ⟨U_2_10_3_5_7_8.out, A_2_10_3_5_7_8.out, B_2_10_3_5_7_8.out, C_2_10_3_5_7_8.out⟩ (fun hHeld => ?_)
            clear hK K
            refine norm_ (a' := ?_) ?_ ?_
            rotate_left
            · show Act.put _ (some 47) _ = _
              simp only [Act.put, OpenRow.s1, OpenRow.s2, OpenRow.s3, i64_w, i32_w]
              rfl
            refine one_ (i := 9) (N := some 48) #[true, true, true, true, true, true, true, true, true, true, true, false] rfl rfl (by kernel_rfl) (by decide) (fun K hK => ?_)
            refine goes_ Try.func64 (by kernel_rfl) rfl #[.agg (arr .i64 (fe c41)), .agg (arr .i64 (fe c47))] (by rfl) rfl rfl (by simp only [List.map_toArray, List.map_cons, List.map_nil] <;> rfl) ?_
            with_reducible refine (K48.out c41 hl41 hm41 c47 hl47 hm47 _).mono ?_
            rintro e w3 ⟨c48, hl48, hm48, rfl, hb⟩
            refine ⟨_, rfl, ?_⟩
            have U_2_10_3_5_7_8_9 := Aside0.mk (U_2_10_3_5_7_8.out.step hb)
            have A_2_10_3_5_7_8_9 := Aside0.mk (blk_below A_2_10_3_5_7_8.out hb)
            have B_2_10_3_5_7_8_9 := Aside0.mk (blk_below B_2_10_3_5_7_8.out hb)
            have C_2_10_3_5_7_8_9 := Aside0.mk (blk_below C_2_10_3_5_7_8.out hb)
            have G10_2_10_3_5_7_8_9 := Aside0.mk (blk_below G10_2_10_3_5_7_8.out hb)
            clear hb
            refine hK.out _ _ ⟨U_2_10_3_5_7_8_9.out, A_2_10_3_5_7_8_9.out, B_2_10_3_5_7_8_9.out, C_2_10_3_5_7_8_9.out⟩ (fun hHeld => ?_)
            clear hK K
            refine norm_ (a' := ?_) ?_ ?_
            rotate_left
            · show Act.put _ (some 48) _ = _
              simp only [Act.put, OpenRow.s1, OpenRow.s2, OpenRow.s3, i64_w, i32_w]
              rfl
            exact norm_ (by simp only [putAll, Act.put, List.setIfInBounds_toArray, List.set_cons_zero, List.set_cons_succ] <;> rfl) (hCont (c41, (c42, (c44, (c46, (c47, (c48, _)))))) _ ⟨U_2_10_3_5_7_8_9.out, A_2_10_3_5_7_8_9.out, B_2_10_3_5_7_8_9.out, C_2_10_3_5_7_8_9.out, G10_2_10_3_5_7_8_9.out, E10.out, M10_0.out, M10_1.out, M10_2.out, hl48, hm48⟩)
        · skip
          refine value_ (w1 := ?_) (v := ?_) (by rfl) rfl ?_ ?_
          rotate_left 2
          · go_simp
            constructor
            · rfl
            · rfl
          have U_10 := Aside0.mk (U.out.alloc (.cells (arr .i64 z16) 40))
          have A_10 := Aside0.mk (blk_alloc A.out (.cells (arr .i64 z16) 40))
          have B_10 := Aside0.mk (blk_alloc B.out (.cells (arr .i64 z16) 40))
          have C_10 := Aside0.mk (blk_alloc C.out (.cells (arr .i64 z16) 40))
          have G10_10 := Aside0.mk (U.out.new (.cells (arr .i64 z16) 40))
          have E10 := Aside0.mk U.out.size
          have M10_0 := Aside0.mk (ne_of_blk A.out)
          have M10_1 := Aside0.mk (ne_of_blk B.out)
          have M10_2 := Aside0.mk (ne_of_blk C.out)
          refine hK.out _ _ ⟨U_10.out, A_10.out, B_10.out, C_10.out⟩ (fun hHeld => ?_)
          clear hK K
          refine norm_ (a' := ?_) ?_ ?_
          rotate_left
          · show Act.put _ (some 9) _ = _
            simp only [Act.put, OpenRow.s1, OpenRow.s2, OpenRow.s3, i64_w, i32_w]
            rfl
          refine one_ (i := 2) (N := some 41) #[true, true, true, false, true, false, true, false, false, false, true, false] rfl rfl (by kernel_rfl) (by decide) (fun K hK => ?_)
          refine goes_ Try.func53 (by kernel_rfl) rfl #[.agg (arr .i64 (fe q)), .agg (arr .i64 (fe 1))] (by rfl) rfl rfl (by simp only [List.map_toArray, List.map_cons, List.map_nil] <;> rfl) ?_
          with_reducible refine (K41.out _).mono ?_
          rintro e w3 ⟨c41, hl41, hm41, rfl, hb⟩
          refine ⟨_, rfl, ?_⟩
          have U_10_2 := Aside0.mk (U_10.out.step hb)
          have A_10_2 := Aside0.mk (blk_below A_10.out hb)
          have B_10_2 := Aside0.mk (blk_below B_10.out hb)
          have C_10_2 := Aside0.mk (blk_below C_10.out hb)
          have G10_10_2 := Aside0.mk (blk_below G10_10.out hb)
          clear hb
          refine hK.out _ _ ⟨U_10_2.out, A_10_2.out, B_10_2.out, C_10_2.out⟩ (fun hHeld => ?_)
          clear hK K
          refine norm_ (a' := ?_) ?_ ?_
          rotate_left
          · show Act.put _ (some 41) _ = _
            simp only [Act.put, OpenRow.s1, OpenRow.s2, OpenRow.s3, i64_w, i32_w]
            rfl
          refine one_ (i := 3) (N := some 42) #[true, true, true, true, true, false, true, false, false, false, true, false] rfl rfl (by kernel_rfl) (by decide) (fun K hK => ?_)
          refine goes_ Try.func100 (by kernel_rfl) rfl #[] (by rfl) rfl rfl (by simp only [List.map_toArray, List.map_cons, List.map_nil] <;> rfl) ?_
          with_reducible refine (K42.out _).mono ?_
          rintro e w3 ⟨c42, hl42, hm42, rfl, hb⟩
          refine ⟨_, rfl, ?_⟩
          have U_10_2_3 := Aside0.mk (U_10_2.out.step hb)
          have A_10_2_3 := Aside0.mk (blk_below A_10_2.out hb)
          have B_10_2_3 := Aside0.mk (blk_below B_10_2.out hb)
          have C_10_2_3 := Aside0.mk (blk_below C_10_2.out hb)
          have G10_10_2_3 := Aside0.mk (blk_below G10_10_2.out hb)
          clear hb
          refine hK.out _ _ ⟨U_10_2_3.out, A_10_2_3.out, B_10_2_3.out, C_10_2_3.out⟩ (fun hHeld => ?_)
          clear hK K
          refine norm_ (a' := ?_) ?_ ?_
          rotate_left
          · show Act.put _ (some 42) _ = _
            simp only [Act.put, OpenRow.s1, OpenRow.s2, OpenRow.s3, i64_w, i32_w]
            rfl
          refine one_ (i := 5) (N := some 44) #[true, true, true, true, true, true, true, false, false, false, true, false] rfl rfl (by kernel_rfl) (by decide) (fun K hK => ?_)
          refine goes_ Try.func64 (by kernel_rfl) rfl #[.agg (arr .i64 (fe c42)), .agg (arr .i64 (fe q))] (by rfl) rfl rfl (by simp only [List.map_toArray, List.map_cons, List.map_nil] <;> rfl) ?_
          with_reducible refine (K44.out c42 hl42 hm42 _).mono ?_
          rintro e w3 ⟨c44, hl44, hm44, rfl, hb⟩
          refine ⟨_, rfl, ?_⟩
          have U_10_2_3_5 := Aside0.mk (U_10_2_3.out.step hb)
          have A_10_2_3_5 := Aside0.mk (blk_below A_10_2_3.out hb)
          have B_10_2_3_5 := Aside0.mk (blk_below B_10_2_3.out hb)
          have C_10_2_3_5 := Aside0.mk (blk_below C_10_2_3.out hb)
          have G10_10_2_3_5 := Aside0.mk (blk_below G10_10_2_3.out hb)
          clear hb
          refine hK.out _ _ ⟨U_10_2_3_5.out, A_10_2_3_5.out, B_10_2_3_5.out, C_10_2_3_5.out⟩ (fun hHeld => ?_)
          clear hK K
          refine norm_ (a' := ?_) ?_ ?_
          rotate_left
          · show Act.put _ (some 44) _ = _
            simp only [Act.put, OpenRow.s1, OpenRow.s2, OpenRow.s3, i64_w, i32_w]
            rfl
          refine one_ (i := 7) (N := some 46) #[true, true, true, true, true, true, true, true, false, false, true, false] rfl rfl (by kernel_rfl) (by decide) (fun K hK => ?_)
          refine goes_ Try.func47 (by kernel_rfl) rfl #[.agg (arr .i64 (fe c44)), .agg (arr .i64 (fe 1))] (by rfl) rfl rfl (by simp only [List.map_toArray, List.map_cons, List.map_nil] <;> rfl) ?_
          with_reducible refine (K46.out c44 hl44 hm44 _).mono ?_
          rintro e w3 ⟨c46, hl46, hm46, rfl, hb⟩
          refine ⟨_, rfl, ?_⟩
          have U_10_2_3_5_7 := Aside0.mk (U_10_2_3_5.out.step hb)
          have A_10_2_3_5_7 := Aside0.mk (blk_below A_10_2_3_5.out hb)
          have B_10_2_3_5_7 := Aside0.mk (blk_below B_10_2_3_5.out hb)
          have C_10_2_3_5_7 := Aside0.mk (blk_below C_10_2_3_5.out hb)
          have G10_10_2_3_5_7 := Aside0.mk (blk_below G10_10_2_3_5.out hb)
          clear hb
          refine hK.out _ _ ⟨U_10_2_3_5_7.out, A_10_2_3_5_7.out, B_10_2_3_5_7.out, C_10_2_3_5_7.out⟩ (fun hHeld => ?_)
          clear hK K
          refine norm_ (a' := ?_) ?_ ?_
          rotate_left
          · show Act.put _ (some 46) _ = _
            simp only [Act.put, OpenRow.s1, OpenRow.s2, OpenRow.s3, i64_w, i32_w]
            rfl
          refine one_ (i := 8) (N := some 47) #[true, true, true, true, true, true, true, true, true, false, true, false] rfl rfl (by kernel_rfl) (by decide) (fun K hK => ?_)
          refine goes_ Try.func67 (by kernel_rfl) rfl #[.agg (arr .i64 (fe c46))] (by rfl) rfl rfl (by simp only [List.map_toArray, List.map_cons, List.map_nil] <;> rfl) ?_
          with_reducible refine (K47.out c46 hl46 hm46 _).mono ?_
          rintro e w3 ⟨c47, hl47, hm47, rfl, hb⟩
          refine ⟨_, rfl, ?_⟩
          have U_10_2_3_5_7_8 := Aside0.mk (U_10_2_3_5_7.out.step hb)
          have A_10_2_3_5_7_8 := Aside0.mk (blk_below A_10_2_3_5_7.out hb)
          have B_10_2_3_5_7_8 := Aside0.mk (blk_below B_10_2_3_5_7.out hb)
          have C_10_2_3_5_7_8 := Aside0.mk (blk_below C_10_2_3_5_7.out hb)
          have G10_10_2_3_5_7_8 := Aside0.mk (blk_below G10_10_2_3_5_7.out hb)
          clear hb
          refine hK.out _ _ ⟨U_10_2_3_5_7_8.out, A_10_2_3_5_7_8.out, B_10_2_3_5_7_8.out, C_10_2_3_5_7_8.out⟩ (fun hHeld => ?_)
          clear hK K
          refine norm_ (a' := ?_) ?_ ?_
          rotate_left
          · show Act.put _ (some 47) _ = _
            simp only [Act.put, OpenRow.s1, OpenRow.s2, OpenRow.s3, i64_w, i32_w]
            rfl
          refine one_ (i := 9) (N := some 48) #[true, true, true, true, true, true, true, true, true, true, true, false] rfl rfl (by kernel_rfl) (by decide) (fun K hK => ?_)
          refine goes_ Try.func64 (by kernel_rfl) rfl #[.agg (arr .i64 (fe c41)), .agg (arr .i64 (fe c47))] (by rfl) rfl rfl (by simp only [List.map_toArray, List.map_cons, List.map_nil] <;> rfl) ?_
          with_reducible refine (K48.out c41 hl41 hm41 c47 hl47 hm47 _).mono ?_
          rintro e w3 ⟨c48, hl48, hm48, rfl, hb⟩
          refine ⟨_, rfl, ?_⟩
          have U_10_2_3_5_7_8_9 := Aside0.mk (U_10_2_3_5_7_8.out.step hb)
          have A_10_2_3_5_7_8_9 := Aside0.mk (blk_below A_10_2_3_5_7_8.out hb)
          have B_10_2_3_5_7_8_9 := Aside0.mk (blk_below B_10_2_3_5_7_8.out hb)
          have C_10_2_3_5_7_8_9 := Aside0.mk (blk_below C_10_2_3_5_7_8.out hb)
          have G10_10_2_3_5_7_8_9 := Aside0.mk (blk_below G10_10_2_3_5_7_8.out hb)
          clear hb
          refine hK.out _ _ ⟨U_10_2_3_5_7_8_9.out, A_10_2_3_5_7_8_9.out, B_10_2_3_5_7_8_9.out, C_10_2_3_5_7_8_9.out⟩ (fun hHeld => ?_)
          clear hK K
          refine norm_ (a' := ?_) ?_ ?_
          rotate_left
          · show Act.put _ (some 48) _ = _
            simp only [Act.put, OpenRow.s1, OpenRow.s2, OpenRow.s3, i64_w, i32_w]
            rfl
          exact norm_ (by simp only [putAll, Act.put, List.setIfInBounds_toArray, List.set_cons_zero, List.set_cons_succ] <;> rfl) (hCont (c41, (c42, (c44, (c46, (c47, (c48, _)))))) _ ⟨U_10_2_3_5_7_8_9.out, A_10_2_3_5_7_8_9.out, B_10_2_3_5_7_8_9.out, C_10_2_3_5_7_8_9.out, G10_10_2_3_5_7_8_9.out, E10.out, M10_0.out, M10_1.out, M10_2.out, hl48, hm48⟩)
      rintro ⟨c41, ⟨c42, ⟨c44, ⟨c46, ⟨c47, ⟨c48, g10_⟩⟩⟩⟩⟩⟩ w9 ⟨hS0, hS1, hS2, hS3, hG10, hE10, hM10_0, hM10_1, hM10_2, hl48, hm48⟩
      have T9 := Aside0.mk hS0
      have Z9_1 := Aside0.mk hS1
      have Z9_2 := Aside0.mk hS2
      have Z9_3 := Aside0.mk hS3
      have GG10 := Aside0.mk hG10
      have EE10 := Aside0.mk hE10
      have MM10_0 := Aside0.mk hM10_0
      have MM10_1 := Aside0.mk hM10_1
      have MM10_2 := Aside0.mk hM10_2
      have hHeld := (And.intro hS0 (And.intro hS1 (And.intro hS2 hS3)))
      clear hG10 hE10 hM10_0 hM10_1 hM10_2
      refine norm_ (a' := ?_) ?_ ?_
      rotate_left
      · simp only [putAll, Act.put, List.setIfInBounds_toArray, List.set_cons_zero, List.set_cons_succ]
        rfl
      refine one_ (i := 11) (N := none) #[true, true, true, true, true, true, true, true, true, true, true, true] rfl rfl (by kernel_rfl) (by decide) (fun K hK => ?_)
      refine st_step (by rfl) rfl 40 (.tmp 9) (.tmp 48) rfl g10_ rfl rfl GG10.out (m := 16) (by kernel_rfl) (fe_length _) (by rw [fe_length]; rfl) ?_
      intro w6 h1 h2 h3 h4
      have X := Aside0.mk h1
      have V := Aside0.mk (St.other T9.out h2 h3 EE10.out)
      have A2 := Aside0.mk ((h2 _ MM10_0.out).trans Z9_1.out)
      have B2 := Aside0.mk ((h2 _ MM10_1.out).trans Z9_2.out)
      have C2 := Aside0.mk ((h2 _ MM10_2.out).trans Z9_3.out)
      clear h1 h2 h3 h4
      refine hK.out _ _ ⟨V.out, A2.out, B2.out, C2.out⟩ (fun hHeld => ?_)
      clear hK K
      refine done_ (by kernel_rfl) ?_

      clear T9 Z9_1 Z9_2 Z9_3 GG10 EE10 MM10_0 MM10_1 MM10_2 U A B C B2 K41 K42 K44 K46 K47 K48
      cases ok with
      | false =>
        have hf := Aside0.mk (F1.out rfl)
        go_wp2_with (first
          | ((with_reducible refine gate_dst (N := 50) rfl ?_); refine ld_arr rfl 40 (.tmp 9) rfl g10_ rfl X.out Try.underlying40 (m := 16) (by kernel_rfl) (fe_length _) ?_)
          | ((with_reducible refine (KR.out c48 hl48 hm48 _).mono ?_); rintro e w9 ⟨d, hld, hmd, rfl, hb⟩; have V1 := Aside0.mk (V.out.step hb); have A3 := Aside0.mk (blk_below A2.out hb); have C3 := Aside0.mk (blk_below C2.out hb); clear hb)
          | (refine st_arr rfl 40 (.tmp 10) (.tmp 52) rfl w9.heap.size (xs := fe d) rfl rfl (blk_new w9 (.cells (arr .i64 z16) 40)) (m := 16) (by kernel_rfl) (fe_length _) (by rw [fe_length]; rfl) ?_; intro w10 h1 h2 h4 h3; have XX := Aside0.mk h1; have V2 := Aside0.mk (St.other (V1.out.alloc (.cells (arr .i64 z16) 40)) h2 h3 V1.out.size); have A4 := Aside0.mk ((h2 _ (ne_of_blk A3.out)).trans (blk_alloc A3.out _)); have C4 := Aside0.mk ((h2 _ (ne_of_blk C3.out)).trans (blk_alloc C3.out _)); clear h1 h2 h3 h4)
          | (refine st_arr rfl 64 (.tmp 2) (.tmp 64) rfl w.heap.size (xs := zP) rfl rfl (V2.out.blk 0 rfl) (m := 64) (by kernel_rfl) rfl rfl ?_; intro w' h1 h2 h4 h3; have H1 := Aside0.mk h1; have VY := Aside0.mk (V2.out.row 0 rfl h1 h2 h3); clear h1 h2 h3 h4))
        exact bodyPost_ret (results_ct Try.results74 _ _ w.heap.size 64 _ (0, 0) _ rfl H1.out Try.underlying64 rfl (by kernel_rfl)) rfl ⟨PtPost_no hf.out, VY.out.below⟩
      | true =>
        by_cases hz : x0 = 0
        · rw [decide_eq_true hz] at KZ
          cases sg with
          | true =>
            have hf := Aside0.mk (F2.out hz rfl)
            obtain rfl : sv = 1 := eq_of_beq HSV.out
            clear hz
            go_wp2_with (first
              | ((with_reducible refine gate_dst (N := 50) rfl ?_); refine ld_arr rfl 40 (.tmp 9) rfl g10_ rfl X.out Try.underlying40 (m := 16) (by kernel_rfl) (fe_length _) ?_)
              | ((with_reducible refine (KR.out c48 hl48 hm48 _).mono ?_); rintro e w9 ⟨d, hld, hmd, rfl, hb⟩; have V1 := Aside0.mk (V.out.step hb); have A3 := Aside0.mk (blk_below A2.out hb); have C3 := Aside0.mk (blk_below C2.out hb); clear hb)
              | (refine st_arr rfl 40 (.tmp 10) (.tmp 52) rfl w9.heap.size (xs := fe d) rfl rfl (blk_new w9 (.cells (arr .i64 z16) 40)) (m := 16) (by kernel_rfl) (fe_length _) (by rw [fe_length]; rfl) ?_; intro w10 h1 h2 h4 h3; have XX := Aside0.mk h1; have V2 := Aside0.mk (St.other (V1.out.alloc (.cells (arr .i64 z16) 40)) h2 h3 V1.out.size); have A4 := Aside0.mk ((h2 _ (ne_of_blk A3.out)).trans (blk_alloc A3.out _)); have C4 := Aside0.mk ((h2 _ (ne_of_blk C3.out)).trans (blk_alloc C3.out _)); clear h1 h2 h3 h4)
              | ((with_reducible refine gate_dst (N := 57) rfl ?_); refine ld_arr_on (by rfl) 40 (.tmp 10) rfl w9.heap.size rfl XX.out Try.underlying40 (m := 16) (by kernel_rfl) (fe_length _) ?_)
              | ((with_reducible refine (KZ.out d hld hmd _).mono ?_); rintro e w11 ⟨rfl, hb⟩; have V3 := Aside0.mk (V2.out.step hb); have A5 := Aside0.mk (blk_below A4.out hb); have C5 := Aside0.mk (blk_below C4.out hb); have X5 := Aside0.mk (blk_below XX.out hb); clear hb)
              | (refine st_arr rfl 64 (.tmp 2) (.tmp 64) rfl w.heap.size (xs := zP) rfl rfl (V3.out.blk 0 rfl) (m := 64) (by kernel_rfl) rfl rfl ?_; intro w' h1 h2 h4 h3; have H1 := Aside0.mk h1; have VY := Aside0.mk (V3.out.row 0 rfl h1 h2 h3); clear h1 h2 h3 h4))
            exact bodyPost_ret (results_ct Try.results74 _ _ w.heap.size 64 _ (0, 0) _ rfl H1.out Try.underlying64 rfl (by kernel_rfl)) rfl ⟨PtPost_no hf.out, VY.out.below⟩
          | false =>
            have hf := Aside0.mk (F3.out rfl (fun h => by cases h.2))
            obtain rfl : sv = 0 := by have := HSV.out; rw [beq_eq_false_iff_ne] at this; omega
            have HPX := Aside0.mk (F6.out rfl)
            clear hz
            go_wp2_with (first
              | ((with_reducible refine gate_dst (N := 50) rfl ?_); refine ld_arr rfl 40 (.tmp 9) rfl g10_ rfl X.out Try.underlying40 (m := 16) (by kernel_rfl) (fe_length _) ?_)
              | ((with_reducible refine (KR.out c48 hl48 hm48 _).mono ?_); rintro e w9 ⟨d, hld, hmd, rfl, hb⟩; have V1 := Aside0.mk (V.out.step hb); have A3 := Aside0.mk (blk_below A2.out hb); have C3 := Aside0.mk (blk_below C2.out hb); clear hb)
              | (refine st_arr rfl 40 (.tmp 10) (.tmp 52) rfl w9.heap.size (xs := fe d) rfl rfl (blk_new w9 (.cells (arr .i64 z16) 40)) (m := 16) (by kernel_rfl) (fe_length _) (by rw [fe_length]; rfl) ?_; intro w10 h1 h2 h4 h3; have XX := Aside0.mk h1; have V2 := Aside0.mk (St.other (V1.out.alloc (.cells (arr .i64 z16) 40)) h2 h3 V1.out.size); have A4 := Aside0.mk ((h2 _ (ne_of_blk A3.out)).trans (blk_alloc A3.out _)); have C4 := Aside0.mk ((h2 _ (ne_of_blk C3.out)).trans (blk_alloc C3.out _)); clear h1 h2 h3 h4)
              | ((with_reducible refine gate_dst (N := 57) rfl ?_); refine ld_arr_on (by rfl) 40 (.tmp 10) rfl w9.heap.size rfl XX.out Try.underlying40 (m := 16) (by kernel_rfl) (fe_length _) ?_)
              | ((with_reducible refine (KZ.out d hld hmd _).mono ?_); rintro e w11 ⟨rfl, hb⟩; have V3 := Aside0.mk (V2.out.step hb); have A5 := Aside0.mk (blk_below A4.out hb); have C5 := Aside0.mk (blk_below C4.out hb); have X5 := Aside0.mk (blk_below XX.out hb); clear hb))
            have VW := Aside0.mk V3.out.drew
            have AW := Aside0.mk (blk_drew A5.out)
            have CW := Aside0.mk (blk_drew C5.out)
            have XW := Aside0.mk (blk_drew X5.out)
            generalize w9.heap.size = g10 at *
            clear V V1 V2 V3 A2 A3 A4 A5 C2 C3 C4 C5 X XX X5
            refine start_ (n := 9) (S := fun w' => St w [⟨64, .i64, zP⟩] w' ∧ w'.heap[g6]? = some (.cells (arr .i64 (fe y)) 40 (0, 0)) ∧ w'.heap[g8]? = some (.cells (arr .i64 (fe 1)) 40 (0, 0)) ∧ w'.heap[g10]? = some (.cells (arr .i64 (fe d)) 40 (0, 0))) (ds := [7]) #[false, false, false, false, false, false, false, false, false] (by kernel_rfl) rfl rfl ⟨VW.out, AW.out, CW.out, XW.out⟩ (fun hHeld => ?_)
            refine take_ (i := 0) (N := some 70) (v := ?_) (a' := ?_) #[true, false, false, false, false, false, false, false, false] rfl rfl (by kernel_rfl) (fun _ _ _ h => h) (Or.inl ⟨by rfl, ?_⟩) hHeld ?_ ?_
            rotate_left
            · rintro w' ⟨s0, s1, s2, s3⟩
              refine (run_ld 40 (.tmp 10) (by rfl) g10 (by rfl) s3 Try.underlying40 (m := 16) (by kernel_rfl) (fe_length _)).trans ?_; with_reducible rfl
            rotate_left
            · simp only [Act.put, OpenRow.s1, OpenRow.s2, OpenRow.s3, i64_w, i32_w]; rfl
            refine take_ (i := 1) (N := some 71) (v := ?_) (a' := ?_) #[true, true, false, false, false, false, false, false, false] rfl rfl (by kernel_rfl) (fun _ _ _ h => h) (Or.inl ⟨by rfl, ?_⟩) hHeld ?_ ?_
            rotate_left
            · rintro w' ⟨s0, s1, s2, s3⟩
              refine (run_ld 40 (.tmp 6) (by rfl) g6 (by rfl) s1 Try.underlying40 (m := 16) (by kernel_rfl) (fe_length _)).trans ?_; with_reducible rfl
            rotate_left
            · simp only [Act.put, OpenRow.s1, OpenRow.s2, OpenRow.s3, i64_w, i32_w]; rfl
            refine take_ (i := 2) (N := some 72) (v := ?_) (a' := ?_) #[true, true, true, false, false, false, false, false, false] rfl rfl (by kernel_rfl) (fun _ _ _ h => h) (Or.inl ⟨by rfl, ?_⟩) hHeld ?_ ?_
            rotate_left
            · rintro w' ⟨s0, s1, s2, s3⟩
              refine (run_ld 40 (.tmp 8) (by rfl) g8 (by rfl) s2 Try.underlying40 (m := 16) (by kernel_rfl) (fe_length _)).trans ?_; with_reducible rfl
            rotate_left
            · simp only [Act.put, OpenRow.s1, OpenRow.s2, OpenRow.s3, i64_w, i32_w]; rfl
            refine take_ (i := 3) (N := some 73) (v := ?_) (a' := ?_) #[true, true, true, true, false, false, false, false, false] rfl rfl (by kernel_rfl) (fun _ _ _ h => h) (Or.inl ⟨by rfl, ?_⟩) hHeld ?_ ?_
            rotate_left
            · rintro w' ⟨s0, s1, s2, s3⟩
              refine (run_ld 40 (.tmp 10) (by rfl) g10 (by rfl) s3 Try.underlying40 (m := 16) (by kernel_rfl) (fe_length _)).trans ?_; with_reducible rfl
            rotate_left
            · simp only [Act.put, OpenRow.s1, OpenRow.s2, OpenRow.s3, i64_w, i32_w]; rfl
            refine take_ (i := 4) (N := some 74) (v := ?_) (a' := ?_) #[true, true, true, true, true, false, false, false, false] rfl rfl (by kernel_rfl) (fun _ _ _ h => h) (Or.inl ⟨by rfl, ?_⟩) hHeld ?_ ?_
            rotate_left
            · rintro w' ⟨s0, s1, s2, s3⟩
              refine (run_ld 40 (.tmp 6) (by rfl) g6 (by rfl) s1 Try.underlying40 (m := 16) (by kernel_rfl) (fe_length _)).trans ?_; with_reducible rfl
            rotate_left
            · simp only [Act.put, OpenRow.s1, OpenRow.s2, OpenRow.s3, i64_w, i32_w]; rfl
            refine one_ (i := 5) (N := some 75) #[true, true, true, true, true, true, false, false, false] rfl rfl (by kernel_rfl) (by decide) (fun K hK => ?_)
            refine goes_ Try.func64 (by kernel_rfl) rfl #[.agg (arr .i64 (fe d)), .agg (arr .i64 (fe y))] (by rfl) rfl rfl (by simp only [List.map_toArray, List.map_cons, List.map_nil] <;> rfl) ?_
            with_reducible refine (KT.out x0 d hld hmd _).mono ?_
            rintro e w3 ⟨ct, hlt, hmt, rfl, hb⟩
            refine ⟨_, rfl, ?_⟩
            have VT := Aside0.mk (VW.out.step hb)
            have AT := Aside0.mk (blk_below AW.out hb)
            have CT := Aside0.mk (blk_below CW.out hb)
            have XT := Aside0.mk (blk_below XW.out hb)
            clear hb
            refine hK.out _ _ ⟨VT.out, AT.out, CT.out, XT.out⟩ (fun hHeld => ?_)
            clear hK K
            refine norm_ (a' := ?_) ?_ ?_
            rotate_left
            · show Act.put _ (some 75) _ = _
              simp only [Act.put, OpenRow.s1, OpenRow.s2, OpenRow.s3, i64_w, i32_w]
              rfl
            refine pure_ (i := 6) (N := some 76) (v := ?_) (a' := ?_) #[true, true, true, true, true, true, true, false, false] rfl rfl (by kernel_rfl) (fun _ _ _ h => h) (Or.inl ⟨by rfl, ?_⟩) ?_ ?_
            rotate_left
            · intro w'
              refine (run_bd rfl _ (by simp only [List.map_toArray, List.map_cons, List.map_nil] <;> rfl) (build_fe _ _ _ _ _)).trans ?_; with_reducible rfl
            rotate_left
            · simp only [Act.put, OpenRow.s1, OpenRow.s2, OpenRow.s3, i64_w, i32_w]; rfl
            refine last_ (i := 7) (N := none) #[true, true, true, true, true, true, true, true, false] rfl rfl (by kernel_rfl) (by decide) (fun K hK => ?_)
            refine st_step (by rfl) rfl 64 (.tmp 2) (.tmp 76) rfl w.heap.size (xs := feP d y 1 ct) rfl rfl (VT.out.blk 0 rfl) (m := 64) (by kernel_rfl) (feP_length _ _ _ _) (by rw [feP_length]; rfl) ?_
            intro w6 h1 h2 h3 h4
            have H1 := Aside0.mk h1
            have VY := Aside0.mk (VT.out.row 0 rfl h1 h2 h3)
            clear h1 h2 h3 h4
            refine hK.out _ _ ?_
            clear hK K
            refine pure_ (i := 8) (N := some 3) (v := ?_) (a' := ?_) #[true, true, true, true, true, true, true, true, true] rfl rfl (by kernel_rfl) (fun _ _ _ h => h) (Or.inl ⟨by rfl, ?_⟩) ?_ ?_
            rotate_left
            · intro w'; go_simp; with_reducible rfl
            rotate_left
            · simp only [Act.put, OpenRow.s1, OpenRow.s2, OpenRow.s3, i64_w, i32_w]; rfl
            refine done_ (by kernel_rfl) ?_

            go_wp2
            exact bodyPost_ret (results_ct Try.results74 _ _ w.heap.size 64 _ (0, 0) _ rfl H1.out Try.underlying64 rfl (by rw [arr_size, feP_length]; kernel_rfl)) rfl ⟨PtPost_yes hf.out x0 y d ct HPX.out HPY.out hld hlt hmd hmt, VY.out.below⟩
        · rw [decide_eq_false hz] at KZ
          cases sg with
          | true =>
            have hf := Aside0.mk (F3.out rfl (fun h => hz h.1))
            obtain rfl : sv = 1 := eq_of_beq HSV.out
            have HPX := Aside0.mk (F5.out rfl)
            clear hz F5
            generalize (PP - x0) % PP = x1 at *
            go_wp2_with (first
              | ((with_reducible refine gate_dst (N := 50) rfl ?_); refine ld_arr rfl 40 (.tmp 9) rfl g10_ rfl X.out Try.underlying40 (m := 16) (by kernel_rfl) (fe_length _) ?_)
              | ((with_reducible refine (KR.out c48 hl48 hm48 _).mono ?_); rintro e w9 ⟨d, hld, hmd, rfl, hb⟩; have V1 := Aside0.mk (V.out.step hb); have A3 := Aside0.mk (blk_below A2.out hb); have C3 := Aside0.mk (blk_below C2.out hb); clear hb)
              | (refine st_arr rfl 40 (.tmp 10) (.tmp 52) rfl w9.heap.size (xs := fe d) rfl rfl (blk_new w9 (.cells (arr .i64 z16) 40)) (m := 16) (by kernel_rfl) (fe_length _) (by rw [fe_length]; rfl) ?_; intro w10 h1 h2 h4 h3; have XX := Aside0.mk h1; have V2 := Aside0.mk (St.other (V1.out.alloc (.cells (arr .i64 z16) 40)) h2 h3 V1.out.size); have A4 := Aside0.mk ((h2 _ (ne_of_blk A3.out)).trans (blk_alloc A3.out _)); have C4 := Aside0.mk ((h2 _ (ne_of_blk C3.out)).trans (blk_alloc C3.out _)); clear h1 h2 h3 h4)
              | ((with_reducible refine gate_dst (N := 57) rfl ?_); refine ld_arr_on (by rfl) 40 (.tmp 10) rfl w9.heap.size rfl XX.out Try.underlying40 (m := 16) (by kernel_rfl) (fe_length _) ?_)
              | ((with_reducible refine (KZ.out d hld hmd _).mono ?_); rintro e w11 ⟨rfl, hb⟩; have V3 := Aside0.mk (V2.out.step hb); have A5 := Aside0.mk (blk_below A4.out hb); have C5 := Aside0.mk (blk_below C4.out hb); have X5 := Aside0.mk (blk_below XX.out hb); clear hb)
              | ((with_reducible refine gate_dst (N := 68) rfl ?_); refine ld_arr rfl 40 (.tmp 10) rfl w9.heap.size rfl X5.out Try.underlying40 (m := 16) (by kernel_rfl) (fe_length _) ?_)
              | ((with_reducible refine (KU.out d hld hmd _).mono ?_); rintro e w12 ⟨x, hlx, hmx, rfl, hb⟩; have V4 := Aside0.mk (V3.out.step hb); have A6 := Aside0.mk (blk_below A5.out hb); have C6 := Aside0.mk (blk_below C5.out hb); have X6 := Aside0.mk (blk_below X5.out hb); clear hb)
              | (refine st_arr rfl 40 (.tmp 10) (.tmp 69) rfl w9.heap.size (xs := fe x) rfl rfl X6.out (m := 16) (by kernel_rfl) (fe_length _) (by rw [fe_length, fe_length]) ?_; intro w13 h1 h2 h4 h3; have X7 := Aside0.mk h1; have V7 := Aside0.mk (St.other V4.out h2 h3 V1.out.size); have A7 := Aside0.mk ((h2 _ (ne_of_blk A3.out)).trans A6.out); have C7 := Aside0.mk ((h2 _ (ne_of_blk C3.out)).trans C6.out); clear h1 h2 h3 h4))
            have VW := Aside0.mk V7.out.drew
            have AW := Aside0.mk (blk_drew A7.out)
            have CW := Aside0.mk (blk_drew C7.out)
            have XW := Aside0.mk (blk_drew X7.out)
            generalize w9.heap.size = g10 at *
            clear V V1 V2 V3 A2 A3 A4 A5 C2 C3 C4 C5 X XX X5 V4 V7 A6 A7 C6 C7 X6 X7
            refine start_ (n := 9) (S := fun w' => St w [⟨64, .i64, zP⟩] w' ∧ w'.heap[g6]? = some (.cells (arr .i64 (fe y)) 40 (0, 0)) ∧ w'.heap[g8]? = some (.cells (arr .i64 (fe 1)) 40 (0, 0)) ∧ w'.heap[g10]? = some (.cells (arr .i64 (fe x)) 40 (0, 0))) (ds := [7]) #[false, false, false, false, false, false, false, false, false] (by kernel_rfl) rfl rfl ⟨VW.out, AW.out, CW.out, XW.out⟩ (fun hHeld => ?_)
            refine take_ (i := 0) (N := some 70) (v := ?_) (a' := ?_) #[true, false, false, false, false, false, false, false, false] rfl rfl (by kernel_rfl) (fun _ _ _ h => h) (Or.inl ⟨by rfl, ?_⟩) hHeld ?_ ?_
            rotate_left
            · rintro w' ⟨s0, s1, s2, s3⟩
              refine (run_ld 40 (.tmp 10) (by rfl) g10 (by rfl) s3 Try.underlying40 (m := 16) (by kernel_rfl) (fe_length _)).trans ?_; with_reducible rfl
            rotate_left
            · simp only [Act.put, OpenRow.s1, OpenRow.s2, OpenRow.s3, i64_w, i32_w]; rfl
            refine take_ (i := 1) (N := some 71) (v := ?_) (a' := ?_) #[true, true, false, false, false, false, false, false, false] rfl rfl (by kernel_rfl) (fun _ _ _ h => h) (Or.inl ⟨by rfl, ?_⟩) hHeld ?_ ?_
            rotate_left
            · rintro w' ⟨s0, s1, s2, s3⟩
              refine (run_ld 40 (.tmp 6) (by rfl) g6 (by rfl) s1 Try.underlying40 (m := 16) (by kernel_rfl) (fe_length _)).trans ?_; with_reducible rfl
            rotate_left
            · simp only [Act.put, OpenRow.s1, OpenRow.s2, OpenRow.s3, i64_w, i32_w]; rfl
            refine take_ (i := 2) (N := some 72) (v := ?_) (a' := ?_) #[true, true, true, false, false, false, false, false, false] rfl rfl (by kernel_rfl) (fun _ _ _ h => h) (Or.inl ⟨by rfl, ?_⟩) hHeld ?_ ?_
            rotate_left
            · rintro w' ⟨s0, s1, s2, s3⟩
              refine (run_ld 40 (.tmp 8) (by rfl) g8 (by rfl) s2 Try.underlying40 (m := 16) (by kernel_rfl) (fe_length _)).trans ?_; with_reducible rfl
            rotate_left
            · simp only [Act.put, OpenRow.s1, OpenRow.s2, OpenRow.s3, i64_w, i32_w]; rfl
            refine take_ (i := 3) (N := some 73) (v := ?_) (a' := ?_) #[true, true, true, true, false, false, false, false, false] rfl rfl (by kernel_rfl) (fun _ _ _ h => h) (Or.inl ⟨by rfl, ?_⟩) hHeld ?_ ?_
            rotate_left
            · rintro w' ⟨s0, s1, s2, s3⟩
              refine (run_ld 40 (.tmp 10) (by rfl) g10 (by rfl) s3 Try.underlying40 (m := 16) (by kernel_rfl) (fe_length _)).trans ?_; with_reducible rfl
            rotate_left
            · simp only [Act.put, OpenRow.s1, OpenRow.s2, OpenRow.s3, i64_w, i32_w]; rfl
            refine take_ (i := 4) (N := some 74) (v := ?_) (a' := ?_) #[true, true, true, true, true, false, false, false, false] rfl rfl (by kernel_rfl) (fun _ _ _ h => h) (Or.inl ⟨by rfl, ?_⟩) hHeld ?_ ?_
            rotate_left
            · rintro w' ⟨s0, s1, s2, s3⟩
              refine (run_ld 40 (.tmp 6) (by rfl) g6 (by rfl) s1 Try.underlying40 (m := 16) (by kernel_rfl) (fe_length _)).trans ?_; with_reducible rfl
            rotate_left
            · simp only [Act.put, OpenRow.s1, OpenRow.s2, OpenRow.s3, i64_w, i32_w]; rfl
            refine one_ (i := 5) (N := some 75) #[true, true, true, true, true, true, false, false, false] rfl rfl (by kernel_rfl) (by decide) (fun K hK => ?_)
            refine goes_ Try.func64 (by kernel_rfl) rfl #[.agg (arr .i64 (fe x)), .agg (arr .i64 (fe y))] (by rfl) rfl rfl (by simp only [List.map_toArray, List.map_cons, List.map_nil] <;> rfl) ?_
            with_reducible refine (KT.out x1 x hlx hmx _).mono ?_
            rintro e w3 ⟨ct, hlt, hmt, rfl, hb⟩
            refine ⟨_, rfl, ?_⟩
            have VT := Aside0.mk (VW.out.step hb)
            have AT := Aside0.mk (blk_below AW.out hb)
            have CT := Aside0.mk (blk_below CW.out hb)
            have XT := Aside0.mk (blk_below XW.out hb)
            clear hb
            refine hK.out _ _ ⟨VT.out, AT.out, CT.out, XT.out⟩ (fun hHeld => ?_)
            clear hK K
            refine norm_ (a' := ?_) ?_ ?_
            rotate_left
            · show Act.put _ (some 75) _ = _
              simp only [Act.put, OpenRow.s1, OpenRow.s2, OpenRow.s3, i64_w, i32_w]
              rfl
            refine pure_ (i := 6) (N := some 76) (v := ?_) (a' := ?_) #[true, true, true, true, true, true, true, false, false] rfl rfl (by kernel_rfl) (fun _ _ _ h => h) (Or.inl ⟨by rfl, ?_⟩) ?_ ?_
            rotate_left
            · intro w'
              refine (run_bd rfl _ (by simp only [List.map_toArray, List.map_cons, List.map_nil] <;> rfl) (build_fe _ _ _ _ _)).trans ?_; with_reducible rfl
            rotate_left
            · simp only [Act.put, OpenRow.s1, OpenRow.s2, OpenRow.s3, i64_w, i32_w]; rfl
            refine last_ (i := 7) (N := none) #[true, true, true, true, true, true, true, true, false] rfl rfl (by kernel_rfl) (by decide) (fun K hK => ?_)
            refine st_step (by rfl) rfl 64 (.tmp 2) (.tmp 76) rfl w.heap.size (xs := feP x y 1 ct) rfl rfl (VT.out.blk 0 rfl) (m := 64) (by kernel_rfl) (feP_length _ _ _ _) (by rw [feP_length]; rfl) ?_
            intro w6 h1 h2 h3 h4
            have H1 := Aside0.mk h1
            have VY := Aside0.mk (VT.out.row 0 rfl h1 h2 h3)
            clear h1 h2 h3 h4
            refine hK.out _ _ ?_
            clear hK K
            refine pure_ (i := 8) (N := some 3) (v := ?_) (a' := ?_) #[true, true, true, true, true, true, true, true, true] rfl rfl (by kernel_rfl) (fun _ _ _ h => h) (Or.inl ⟨by rfl, ?_⟩) ?_ ?_
            rotate_left
            · intro w'; go_simp; with_reducible rfl
            rotate_left
            · simp only [Act.put, OpenRow.s1, OpenRow.s2, OpenRow.s3, i64_w, i32_w]; rfl
            refine done_ (by kernel_rfl) ?_

            go_wp2
            exact bodyPost_ret (results_ct Try.results74 _ _ w.heap.size 64 _ (0, 0) _ rfl H1.out Try.underlying64 rfl (by rw [arr_size, feP_length]; kernel_rfl)) rfl ⟨PtPost_yes hf.out x1 y x ct HPX.out HPY.out hlx hlt hmx hmt, VY.out.below⟩
          | false =>
            have hf := Aside0.mk (F3.out rfl (fun h => hz h.1))
            obtain rfl : sv = 0 := by have := HSV.out; rw [beq_eq_false_iff_ne] at this; omega
            have HPX := Aside0.mk (F6.out rfl)
            clear hz
            go_wp2_with (first
              | ((with_reducible refine gate_dst (N := 50) rfl ?_); refine ld_arr rfl 40 (.tmp 9) rfl g10_ rfl X.out Try.underlying40 (m := 16) (by kernel_rfl) (fe_length _) ?_)
              | ((with_reducible refine (KR.out c48 hl48 hm48 _).mono ?_); rintro e w9 ⟨d, hld, hmd, rfl, hb⟩; have V1 := Aside0.mk (V.out.step hb); have A3 := Aside0.mk (blk_below A2.out hb); have C3 := Aside0.mk (blk_below C2.out hb); clear hb)
              | (refine st_arr rfl 40 (.tmp 10) (.tmp 52) rfl w9.heap.size (xs := fe d) rfl rfl (blk_new w9 (.cells (arr .i64 z16) 40)) (m := 16) (by kernel_rfl) (fe_length _) (by rw [fe_length]; rfl) ?_; intro w10 h1 h2 h4 h3; have XX := Aside0.mk h1; have V2 := Aside0.mk (St.other (V1.out.alloc (.cells (arr .i64 z16) 40)) h2 h3 V1.out.size); have A4 := Aside0.mk ((h2 _ (ne_of_blk A3.out)).trans (blk_alloc A3.out _)); have C4 := Aside0.mk ((h2 _ (ne_of_blk C3.out)).trans (blk_alloc C3.out _)); clear h1 h2 h3 h4)
              | ((with_reducible refine gate_dst (N := 57) rfl ?_); refine ld_arr_on (by rfl) 40 (.tmp 10) rfl w9.heap.size rfl XX.out Try.underlying40 (m := 16) (by kernel_rfl) (fe_length _) ?_)
              | ((with_reducible refine (KZ.out d hld hmd _).mono ?_); rintro e w11 ⟨rfl, hb⟩; have V3 := Aside0.mk (V2.out.step hb); have A5 := Aside0.mk (blk_below A4.out hb); have C5 := Aside0.mk (blk_below C4.out hb); have X5 := Aside0.mk (blk_below XX.out hb); clear hb))
            have VW := Aside0.mk V3.out.drew
            have AW := Aside0.mk (blk_drew A5.out)
            have CW := Aside0.mk (blk_drew C5.out)
            have XW := Aside0.mk (blk_drew X5.out)
            generalize w9.heap.size = g10 at *
            clear V V1 V2 V3 A2 A3 A4 A5 C2 C3 C4 C5 X XX X5
            refine start_ (n := 9) (S := fun w' => St w [⟨64, .i64, zP⟩] w' ∧ w'.heap[g6]? = some (.cells (arr .i64 (fe y)) 40 (0, 0)) ∧ w'.heap[g8]? = some (.cells (arr .i64 (fe 1)) 40 (0, 0)) ∧ w'.heap[g10]? = some (.cells (arr .i64 (fe d)) 40 (0, 0))) (ds := [7]) #[false, false, false, false, false, false, false, false, false] (by kernel_rfl) rfl rfl ⟨VW.out, AW.out, CW.out, XW.out⟩ (fun hHeld => ?_)
            refine take_ (i := 0) (N := some 70) (v := ?_) (a' := ?_) #[true, false, false, false, false, false, false, false, false] rfl rfl (by kernel_rfl) (fun _ _ _ h => h) (Or.inl ⟨by rfl, ?_⟩) hHeld ?_ ?_
            rotate_left
            · rintro w' ⟨s0, s1, s2, s3⟩
              refine (run_ld 40 (.tmp 10) (by rfl) g10 (by rfl) s3 Try.underlying40 (m := 16) (by kernel_rfl) (fe_length _)).trans ?_; with_reducible rfl
            rotate_left
            · simp only [Act.put, OpenRow.s1, OpenRow.s2, OpenRow.s3, i64_w, i32_w]; rfl
            refine take_ (i := 1) (N := some 71) (v := ?_) (a' := ?_) #[true, true, false, false, false, false, false, false, false] rfl rfl (by kernel_rfl) (fun _ _ _ h => h) (Or.inl ⟨by rfl, ?_⟩) hHeld ?_ ?_
            rotate_left
            · rintro w' ⟨s0, s1, s2, s3⟩
              refine (run_ld 40 (.tmp 6) (by rfl) g6 (by rfl) s1 Try.underlying40 (m := 16) (by kernel_rfl) (fe_length _)).trans ?_; with_reducible rfl
            rotate_left
            · simp only [Act.put, OpenRow.s1, OpenRow.s2, OpenRow.s3, i64_w, i32_w]; rfl
            refine take_ (i := 2) (N := some 72) (v := ?_) (a' := ?_) #[true, true, true, false, false, false, false, false, false] rfl rfl (by kernel_rfl) (fun _ _ _ h => h) (Or.inl ⟨by rfl, ?_⟩) hHeld ?_ ?_
            rotate_left
            · rintro w' ⟨s0, s1, s2, s3⟩
              refine (run_ld 40 (.tmp 8) (by rfl) g8 (by rfl) s2 Try.underlying40 (m := 16) (by kernel_rfl) (fe_length _)).trans ?_; with_reducible rfl
            rotate_left
            · simp only [Act.put, OpenRow.s1, OpenRow.s2, OpenRow.s3, i64_w, i32_w]; rfl
            refine take_ (i := 3) (N := some 73) (v := ?_) (a' := ?_) #[true, true, true, true, false, false, false, false, false] rfl rfl (by kernel_rfl) (fun _ _ _ h => h) (Or.inl ⟨by rfl, ?_⟩) hHeld ?_ ?_
            rotate_left
            · rintro w' ⟨s0, s1, s2, s3⟩
              refine (run_ld 40 (.tmp 10) (by rfl) g10 (by rfl) s3 Try.underlying40 (m := 16) (by kernel_rfl) (fe_length _)).trans ?_; with_reducible rfl
            rotate_left
            · simp only [Act.put, OpenRow.s1, OpenRow.s2, OpenRow.s3, i64_w, i32_w]; rfl
            refine take_ (i := 4) (N := some 74) (v := ?_) (a' := ?_) #[true, true, true, true, true, false, false, false, false] rfl rfl (by kernel_rfl) (fun _ _ _ h => h) (Or.inl ⟨by rfl, ?_⟩) hHeld ?_ ?_
            rotate_left
            · rintro w' ⟨s0, s1, s2, s3⟩
              refine (run_ld 40 (.tmp 6) (by rfl) g6 (by rfl) s1 Try.underlying40 (m := 16) (by kernel_rfl) (fe_length _)).trans ?_; with_reducible rfl
            rotate_left
            · simp only [Act.put, OpenRow.s1, OpenRow.s2, OpenRow.s3, i64_w, i32_w]; rfl
            refine one_ (i := 5) (N := some 75) #[true, true, true, true, true, true, false, false, false] rfl rfl (by kernel_rfl) (by decide) (fun K hK => ?_)
            refine goes_ Try.func64 (by kernel_rfl) rfl #[.agg (arr .i64 (fe d)), .agg (arr .i64 (fe y))] (by rfl) rfl rfl (by simp only [List.map_toArray, List.map_cons, List.map_nil] <;> rfl) ?_
            with_reducible refine (KT.out x0 d hld hmd _).mono ?_
            rintro e w3 ⟨ct, hlt, hmt, rfl, hb⟩
            refine ⟨_, rfl, ?_⟩
            have VT := Aside0.mk (VW.out.step hb)
            have AT := Aside0.mk (blk_below AW.out hb)
            have CT := Aside0.mk (blk_below CW.out hb)
            have XT := Aside0.mk (blk_below XW.out hb)
            clear hb
            refine hK.out _ _ ⟨VT.out, AT.out, CT.out, XT.out⟩ (fun hHeld => ?_)
            clear hK K
            refine norm_ (a' := ?_) ?_ ?_
            rotate_left
            · show Act.put _ (some 75) _ = _
              simp only [Act.put, OpenRow.s1, OpenRow.s2, OpenRow.s3, i64_w, i32_w]
              rfl
            refine pure_ (i := 6) (N := some 76) (v := ?_) (a' := ?_) #[true, true, true, true, true, true, true, false, false] rfl rfl (by kernel_rfl) (fun _ _ _ h => h) (Or.inl ⟨by rfl, ?_⟩) ?_ ?_
            rotate_left
            · intro w'
              refine (run_bd rfl _ (by simp only [List.map_toArray, List.map_cons, List.map_nil] <;> rfl) (build_fe _ _ _ _ _)).trans ?_; with_reducible rfl
            rotate_left
            · simp only [Act.put, OpenRow.s1, OpenRow.s2, OpenRow.s3, i64_w, i32_w]; rfl
            refine last_ (i := 7) (N := none) #[true, true, true, true, true, true, true, true, false] rfl rfl (by kernel_rfl) (by decide) (fun K hK => ?_)
            refine st_step (by rfl) rfl 64 (.tmp 2) (.tmp 76) rfl w.heap.size (xs := feP d y 1 ct) rfl rfl (VT.out.blk 0 rfl) (m := 64) (by kernel_rfl) (feP_length _ _ _ _) (by rw [feP_length]; rfl) ?_
            intro w6 h1 h2 h3 h4
            have H1 := Aside0.mk h1
            have VY := Aside0.mk (VT.out.row 0 rfl h1 h2 h3)
            clear h1 h2 h3 h4
            refine hK.out _ _ ?_
            clear hK K
            refine pure_ (i := 8) (N := some 3) (v := ?_) (a' := ?_) #[true, true, true, true, true, true, true, true, true] rfl rfl (by kernel_rfl) (fun _ _ _ h => h) (Or.inl ⟨by rfl, ?_⟩) ?_ ?_
            rotate_left
            · intro w'; go_simp; with_reducible rfl
            rotate_left
            · simp only [Act.put, OpenRow.s1, OpenRow.s2, OpenRow.s3, i64_w, i32_w]; rfl
            refine done_ (by kernel_rfl) ?_

            go_wp2
            exact bodyPost_ret (results_ct Try.results74 _ _ w.heap.size 64 _ (0, 0) _ rfl H1.out Try.underlying64 rfl (by rw [arr_size, feP_length]; kernel_rfl)) rfl ⟨PtPost_yes hf.out x0 y d ct HPX.out HPY.out hld hlt hmd hmt, VY.out.below⟩
    · have he' := Bool.eq_false_iff.mpr he
      have hf := Aside0.mk (okP_el he')
      rw [he'] at HIE
      clear he he' hl
      go_enter Try.func74, Try.ntmps74
      go_wp2_with (first
        | ((with_reducible refine gate_dst (N := 16) rfl ?_); refine Kd.R_lit (Kd.int .u8) _ 5 ?hg (N := 16) ?hd (xs := []) (inner := []) (ok := fun _ => True) (okp := fun _ => True) ?hr ?hp (fun _ hk => hk) trivial (Below.refl _ _) (Nat.le_refl _) (by simp) ?_; (case hd => rfl); (case hg => rfl); (case hr => first | (go_simp; done) | (go_simp; rfl)); (case hp => exact Reps.none _ _); intro v126 w5 ho6 hb hg_ hnew_; clear hg_ hnew_; have HO5 : Aside0 ((Kd.int .u8).R 5 w5 Wa.heap.size (fun _ => True) v126 []) := ⟨(by rw [HWa.out]; exact ho6)⟩; have HB5 : Aside0 (Below Wa.heap.size Wa w5) := ⟨(by rw [HWa.out]; exact hb)⟩; clear hb ho6)
        | ((with_reducible refine gate_builtin (b := .append) (xs := #[.tmp 16, .tmp 17]) rfl ?_); at_builtin; refine Kd.R_append_rows (Kd.int .u8) (w0 := Wa) Wa.heap.size rfl (.tmp 16) (.tmp 17) 22 5 (.int .u8 0) 1 rfl Try.underlying22 INFO.out rfl (by decide) (by decide) v126 [] l _ _ _ (fun _ => True) (fun _ => False) rfl rfl ?aO ?aR (fun _ _ h => h) (fun _ h => h.elim) ?aF ?aB ?aS ?aL ?_; (case aR => exact (Kd.C_below HRa.out HB5.out)); (case aB => exact HB5.out); (case aF => exact (fun _ _ => trivial)); (case aO => exact HO5.out); (case aS => exact (below_size HB5.out)); (case aL => have := HLW.out; simp only [List.length_nil, Nat.zero_add]; omega); intro v129 w1 hR hb hg hat; rw [← Ny.out] at hR; obtain ⟨go, co, eo, gb, gl, _, HGc⟩ := Kd.R_form hR (by omega); rw [HLW.out] at eo; subst eo; have GB := Aside0.mk gb; rw [HWa.out, World.size_alloc] at GB; have S1 := Aside0.mk (S.out.stepB (by have := HWs.out; simp only [List.nil_append, List.length_singleton, ← this]; exact hb)); have hx0 : w1.cell? ⟨go, 31, none⟩ = some (.int .u8 b) := (by rw [HBD.out]; exact (Kd.R_celln 0 hR (31 : Int) (by omega) (by omega)).1); have hf0 : w1.frozen? ⟨go, 31, none⟩ = false := (Kd.R_celln 0 hR (31 : Int) (by omega) (by omega)).2; have HP31 : Aside0 ((Kd.int .u8).R 5 (w1.setCell ⟨go, 31, none⟩ (.int .u8 lo)) Wa.heap.size (fun _ => True) (.slice (some ⟨go, 0, none⟩) 32 co) (lowB l)) := ⟨(by rw [← HLS.out]; exact (Kd.R_putg hR (31 : Int) lo).1)⟩; have HC3 := Aside0.mk (Kd.R_reads' HP31.out).2.2; have HCO := Aside0.mk (Kd.R_reads' HP31.out).2.1; rw [lowB_length, HLW.out] at HC3; clear hb hR gb gl HGc hg hat)
        | ((with_reducible refine (HIE.out _ _ _ HC3.out HCO.out).mono ?_); rintro e w2 ⟨rfl, hb⟩; have S2 := Aside0.mk ((St_far S1.out go 31 _ GB.out).step hb); have HC4 := Aside0.mk (Kd.C_below HC3.out hb); clear hb)
        | (refine st_arr rfl 64 (.tmp 2) (.tmp 32) rfl w.heap.size (xs := zP) rfl rfl (S2.out.blk 0 rfl) (m := 64) (by kernel_rfl) rfl rfl ?_; intro w' h1 h2 h4 h3; have H1 := Aside0.mk h1; have VY := Aside0.mk (S2.out.row 0 rfl h1 h2 h3); clear h1 h2 h3 h4))
      exact bodyPost_ret (results_ct Try.results74 _ _ w.heap.size 64 _ (0, 0) _ rfl H1.out Try.underlying64 rfl (by kernel_rfl)) rfl ⟨PtPost_no hf.out, VY.out.below⟩
  · have hll : ¬ (l.length : Int) = 32 := by omega
    have hf := Aside0.mk (okP_len hl)
    go_enter Try.func74, Try.ntmps74
    go_wp2_with (first
      | (refine st_arr rfl 64 (.tmp 2) (.tmp 15) rfl w.heap.size (xs := zP) rfl rfl (S.out.blk 0 rfl) (m := 64) (by kernel_rfl) rfl rfl ?_; intro w' h1 h2 h4 h3; have H1 := Aside0.mk h1; have VY := Aside0.mk (S.out.row 0 rfl h1 h2 h3); clear h1 h2 h3 h4))
    exact bodyPost_ret (results_ct Try.results74 _ _ w.heap.size 64 _ (0, 0) _ rfl H1.out Try.underlying64 rfl (by kernel_rfl)) rfl ⟨PtPost_no hf.out, VY.out.below⟩


end Go.Proofs.Ytijeackkgcnbgaa.XO
