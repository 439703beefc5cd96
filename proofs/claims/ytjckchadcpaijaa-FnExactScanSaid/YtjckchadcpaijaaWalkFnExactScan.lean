/- The walk of the law FnExactScan over the printed contracts. -/
import Derived.Test.YtjckchadcpaijaaXSx
import Derived.Test.YtjckchadcpaijaaYOpenWin
namespace Go.Proofs.Ytjckchadcpaijaa.WalkFnExactScan
open Go.RowKit Go.Proofs.Ytjckchadcpaijaa Go.Proofs.Ytjckchadcpaijaa.XS Go.Proofs.YtjckchadcpaijaaW.PrintWords Go.Proofs.YtjckchadcpaijaaW.PrintLast Go.Proofs.YtjckchadcpaijaaW.PrintMore
set_option linter.unusedVariables false
set_option linter.unusedSimpArgs false
set_option maxHeartbeats 16000000 in
set_option maxRecDepth 100000 in
theorem walk (l0 : List Int) (R1 : List (List Int)) (R2 R3 m1 m2 : Int) (L1 : List Int) (R1m : List (List Int)) (k1 k2 k3 k4 k5 k6 k7 k8 : Nat) (hn : l0.length ≤ 1048576) (h1 : laws_toByteS.f k1 l0 = some l0) (h2 : spec_Scan.f k2 l0 = some (R1, R2, R3)) (h3 : impl_Scan.f k3 l0 = some (R1, R2, R3)) (h4 : laws_eqByteSS.f k4 R1 R1 = some true) (h5 : laws_eqByteS.f k5 l0 l0 = some true) (h6 : laws_markByteS.f k6 l0 1 = some (m1, L1)) (h7 : laws_markByteSS.f k7 R1 1 = some (m2, R1m)) (h8 : laws_heldByteSS.f k8 R1m 1 = some m2) (hlen : R1m.length = R1.length) (q1 : 0 ≤ m1) (q2 : 0 ≤ m2) (A0 : Option Addr) (c0 : Nat) (w : World) (hr0 : Kd.C (Kd.int .u8) w A0 l0.length l0) (hc0 : l0.length ≤ c0) :
    Calls Try.prog 7 #[.slice A0 l0.length c0] w fun e w' => e = .returned (.bool true) ∧ Below w.heap.size w w' := by
  have H1 := Aside0.mk h1
  have H2 := Aside0.mk h2
  have H3 := Aside0.mk h3
  have H4 := Aside0.mk h4
  have H5 := Aside0.mk h5
  have H6 := Aside0.mk h6
  have H7 := Aside0.mk h7
  have H8 := Aside0.mk h8
  have HLEN := Aside0.mk hlen
  have HR0 := Aside0.mk hr0
  have HC0 := Aside0.mk hc0
  have HB := Aside0.mk (Below.refl w.heap.size w)
  have t0 : decide ((l0.length : Int) > 1048576) = false := decide_eq_false (by omega)
  have t0b : decide ((1048576 : Int) < (l0.length : Int)) = false := decide_eq_false (by omega)
  have t1 : decide (m1 < 0) = false := decide_eq_false (by omega)
  have t2 : decide (m2 < 0) = false := decide_eq_false (by omega)
  clear hlen h1 h2 h3 h4 h5 h6 h7 h8 hr0 hc0 hn q1 q2
  go_enter Try.func7, Try.ntmps7
  go_wp2_with fail
  refine (laws_toByteS.calls _ _ _ _ _ _ (Kd.C_below HR0.out HB.out) HC0.out H1.out).mono ?_
  rintro e_ w1 ⟨v_a, rfl, h_a, hb⟩
  have m_a := Aside0.mk (OpenWin.RW.of (B := w.heap.size) (Kd.R_mono h_a (fun _ _ => trivial)) HB.out.size)
  clear h_a
  have Z1 := Aside0.mk (hb.size)
  have n_ := Aside0.mk (below_step HB.out hb); clear HB; have HB := n_; clear n_
  clear hb
  obtain ⟨A_a, c_a, e_a, _, _⟩ := m_a.out.reads; subst e_a; have F_a := m_a; clear m_a
  go_wp2_with fail
  refine (spec_Scan.calls _ _ _ _ _ _ _ _ (Kd.R_reads' F_a.out.r).2.2 (Kd.R_reads' F_a.out.r).2.1 H2.out).mono ?_
  rintro e_ w2 ⟨v_w0, rfl, h_w0, hb⟩
  have m_w0 := Aside0.mk (OpenWin.SW.of (B := w.heap.size) (Kd.S_mono h_w0 (fun _ _ => trivial)) HB.out.size)
  clear h_w0
  have n_ := Aside0.mk (F_a.out.below hb); clear F_a; have F_a := n_; clear n_
  have Z2 := Aside0.mk (hb.size)
  have n_ := Aside0.mk (below_step HB.out hb); clear HB; have HB := n_; clear n_
  clear hb
  obtain ⟨A_w0, c_w0, e_w0, _, _⟩ := m_w0.out.reads; subst e_w0; have F_w0 := m_w0; clear m_w0
  clear F_a
  go_wp2_with fail
  refine (laws_toByteS.calls _ _ _ _ _ _ (Kd.C_below HR0.out HB.out) HC0.out H1.out).mono ?_
  rintro e_ w3 ⟨v_x0, rfl, h_x0, hb⟩
  have m_x0 := Aside0.mk (OpenWin.RW.of (B := w.heap.size) (Kd.R_mono h_x0 (fun _ _ => trivial)) HB.out.size)
  clear h_x0
  have n_ := Aside0.mk (F_w0.out.below hb); clear F_w0; have F_w0 := n_; clear n_
  have Z3 := Aside0.mk (hb.size)
  have n_ := Aside0.mk (below_step HB.out hb); clear HB; have HB := n_; clear n_
  clear hb
  obtain ⟨A_x0, c_x0, e_x0, _, _⟩ := m_x0.out.reads; subst e_x0; have F_x0 := m_x0; clear m_x0
  go_wp2_with fail
  refine (impl_Scan.calls _ _ _ _ _ _ _ _ (Kd.R_reads' F_x0.out.r).2.2 (Kd.R_reads' F_x0.out.r).2.1 H3.out).mono ?_
  rintro e_ w4 ⟨v_g0, rfl, h_g0, hb⟩
  have m_g0 := Aside0.mk (OpenWin.SW.of (B := w.heap.size) (Kd.S_mono h_g0 (fun _ _ => trivial)) HB.out.size)
  clear h_g0
  have n_ := Aside0.mk (F_w0.out.below hb); clear F_w0; have F_w0 := n_; clear n_
  have n_ := Aside0.mk (F_x0.out.below hb); clear F_x0; have F_x0 := n_; clear n_
  have Z4 := Aside0.mk (hb.size)
  have n_ := Aside0.mk (below_step HB.out hb); clear HB; have HB := n_; clear n_
  clear hb
  obtain ⟨A_g0, c_g0, e_g0, _, _⟩ := m_g0.out.reads; subst e_g0; have F_g0 := m_g0; clear m_g0
  go_wp2_with fail
  refine (laws_eqByteSS.calls _ _ _ _ _ _ _ _ _ (Kd.S_reads' F_g0.out.s).2.2 (Kd.S_reads' F_g0.out.s).2.1 (Kd.S_reads' F_w0.out.s).2.2 (Kd.S_reads' F_w0.out.s).2.1 H4.out).mono ?_
  rintro e_ w5 ⟨rfl, h_⟩; have hb := h_.below; clear h_
  have n_ := Aside0.mk (F_w0.out.below hb); clear F_w0; have F_w0 := n_; clear n_
  have n_ := Aside0.mk (F_x0.out.below hb); clear F_x0; have F_x0 := n_; clear n_
  have n_ := Aside0.mk (F_g0.out.below hb); clear F_g0; have F_g0 := n_; clear n_
  have Z5 := Aside0.mk (hb.size)
  have n_ := Aside0.mk (below_step HB.out hb); clear HB; have HB := n_; clear n_
  clear hb
  go_wp2_with fail
  refine (laws_toByteS.calls _ _ _ _ _ _ (Kd.C_below HR0.out HB.out) HC0.out H1.out).mono ?_
  rintro e_ w6 ⟨v_b, rfl, h_b, hb⟩
  have m_b := Aside0.mk (OpenWin.RW.of (B := w.heap.size) (Kd.R_mono h_b (fun _ _ => trivial)) HB.out.size)
  clear h_b
  have n_ := Aside0.mk (F_w0.out.below hb); clear F_w0; have F_w0 := n_; clear n_
  have n_ := Aside0.mk (F_x0.out.below hb); clear F_x0; have F_x0 := n_; clear n_
  have n_ := Aside0.mk (F_g0.out.below hb); clear F_g0; have F_g0 := n_; clear n_
  have Z6 := Aside0.mk (hb.size)
  have n_ := Aside0.mk (below_step HB.out hb); clear HB; have HB := n_; clear n_
  clear hb
  obtain ⟨A_b, c_b, e_b, _, _⟩ := m_b.out.reads; subst e_b; have F_b := m_b; clear m_b
  go_wp2_with fail
  refine (laws_eqByteS.calls _ _ _ _ _ _ _ _ _ (Kd.R_reads' F_x0.out.r).2.2 (Kd.R_reads' F_x0.out.r).2.1 (Kd.R_reads' F_b.out.r).2.2 (Kd.R_reads' F_b.out.r).2.1 H5.out).mono ?_
  rintro e_ w7 ⟨rfl, h_⟩; have hb := h_.below; clear h_
  have n_ := Aside0.mk (F_w0.out.below hb); clear F_w0; have F_w0 := n_; clear n_
  have n_ := Aside0.mk (F_x0.out.below hb); clear F_x0; have F_x0 := n_; clear n_
  have n_ := Aside0.mk (F_g0.out.below hb); clear F_g0; have F_g0 := n_; clear n_
  have n_ := Aside0.mk (F_b.out.below hb); clear F_b; have F_b := n_; clear n_
  have Z7 := Aside0.mk (hb.size)
  have n_ := Aside0.mk (below_step HB.out hb); clear HB; have HB := n_; clear n_
  clear hb
  clear F_b
  go_wp2_with fail
  refine (laws_markByteS.calls _ (OpenWin.win w2.heap.size w3.heap.size) _ _ _ _ _ w _ HB.out F_x0.out.r H6.out).mono ?_
  rintro e_ w8 ⟨rfl, hm_, hb, hk⟩
  have n_ := Aside0.mk (F_w0.out.kept hk (lo2 := w2.heap.size) (hi2 := w3.heap.size) (fun _ h => h) (by have z1 := Z1.out; have z2 := Z2.out; have z3 := Z3.out; have z4 := Z4.out; have z5 := Z5.out; have z6 := Z6.out; have z7 := Z7.out; omega)); clear F_w0; have F_w0 := n_; clear n_
  have n_ := Aside0.mk (F_g0.out.kept hk (lo2 := w2.heap.size) (hi2 := w3.heap.size) (fun _ h => h) (by have z1 := Z1.out; have z2 := Z2.out; have z3 := Z3.out; have z4 := Z4.out; have z5 := Z5.out; have z6 := Z6.out; have z7 := Z7.out; omega)); clear F_g0; have F_g0 := n_; clear n_
  have Z8 := Aside0.mk hk.1
  clear HB; have HB := Aside0.mk hb
  clear hm_ hb hk
  clear F_x0
  go_wp2_with fail
  refine (laws_eqByteSS.calls _ _ _ _ _ _ _ _ _ (Kd.S_reads' F_g0.out.s).2.2 (Kd.S_reads' F_g0.out.s).2.1 (Kd.S_reads' F_w0.out.s).2.2 (Kd.S_reads' F_w0.out.s).2.1 H4.out).mono ?_
  rintro e_ w9 ⟨rfl, h_⟩; have hb := h_.below; clear h_
  have n_ := Aside0.mk (F_w0.out.below hb); clear F_w0; have F_w0 := n_; clear n_
  have n_ := Aside0.mk (F_g0.out.below hb); clear F_g0; have F_g0 := n_; clear n_
  have Z9 := Aside0.mk (hb.size)
  have n_ := Aside0.mk (below_step HB.out hb); clear HB; have HB := n_; clear n_
  clear hb
  go_wp2_with fail
  refine (laws_markByteSS.calls _ _ _ _ _ _ _ _ w _ HB.out F_g0.out H7.out).mono ?_
  rintro e_ w10 ⟨rfl, hm_, hb, hk⟩
  have n_ := Aside0.mk (F_w0.out.kept hk (lo2 := w3.heap.size) (hi2 := w4.heap.size) (fun _ h => h) (by have z1 := Z1.out; have z2 := Z2.out; have z3 := Z3.out; have z4 := Z4.out; have z5 := Z5.out; have z6 := Z6.out; have z7 := Z7.out; have z8 := Z8.out; have z9 := Z9.out; omega)); clear F_w0; have F_w0 := n_; clear n_
  have Z10 := Aside0.mk hk.1
  clear HB; have HB := Aside0.mk hb
  clear F_g0; have F_g0 := Aside0.mk hm_; clear hm_ hb hk
  go_wp2_with fail
  have HC_ := (laws_heldByteSS.calls _ _ _ _ _ _ _ (Kd.S_reads' F_g0.out.s).2.2 (by rw [HLEN.out]; exact (Kd.S_reads' F_g0.out.s).2.1) H8.out : Calls Try.prog _ _ w10 _)
  rw [HLEN.out] at HC_
  refine HC_.mono ?_
  clear HC_
  rintro e_ w11 ⟨rfl, h_⟩; have hb := h_.below; clear h_
  have n_ := Aside0.mk (F_w0.out.below hb); clear F_w0; have F_w0 := n_; clear n_
  have n_ := Aside0.mk (F_g0.out.below hb); clear F_g0; have F_g0 := n_; clear n_
  have Z11 := Aside0.mk (hb.size)
  have n_ := Aside0.mk (below_step HB.out hb); clear HB; have HB := n_; clear n_
  clear hb
  go_wp2_with fail
  refine (laws_toByteS.calls _ _ _ _ _ _ (Kd.C_below HR0.out HB.out) HC0.out H1.out).mono ?_
  rintro e_ w12 ⟨v_c, rfl, h_c, hb⟩
  have m_c := Aside0.mk (OpenWin.RW.of (B := w.heap.size) (Kd.R_mono h_c (fun _ _ => trivial)) HB.out.size)
  clear h_c
  have n_ := Aside0.mk (F_w0.out.below hb); clear F_w0; have F_w0 := n_; clear n_
  have n_ := Aside0.mk (F_g0.out.below hb); clear F_g0; have F_g0 := n_; clear n_
  have Z12 := Aside0.mk (hb.size)
  have n_ := Aside0.mk (below_step HB.out hb); clear HB; have HB := n_; clear n_
  clear hb
  obtain ⟨A_c, c_c, e_c, _, _⟩ := m_c.out.reads; subst e_c; have F_c := m_c; clear m_c
  go_wp2_with fail
  refine (impl_Scan.calls _ _ _ _ _ _ _ _ (Kd.R_reads' F_c.out.r).2.2 (Kd.R_reads' F_c.out.r).2.1 H3.out).mono ?_
  rintro e_ w13 ⟨v_h0, rfl, h_h0, hb⟩
  have m_h0 := Aside0.mk (OpenWin.SW.of (B := w.heap.size) (Kd.S_mono h_h0 (fun _ _ => trivial)) HB.out.size)
  clear h_h0
  have n_ := Aside0.mk (F_w0.out.below hb); clear F_w0; have F_w0 := n_; clear n_
  have n_ := Aside0.mk (F_g0.out.below hb); clear F_g0; have F_g0 := n_; clear n_
  have n_ := Aside0.mk (F_c.out.below hb); clear F_c; have F_c := n_; clear n_
  have Z13 := Aside0.mk (hb.size)
  have n_ := Aside0.mk (below_step HB.out hb); clear HB; have HB := n_; clear n_
  clear hb
  obtain ⟨A_h0, c_h0, e_h0, _, _⟩ := m_h0.out.reads; subst e_h0; have F_h0 := m_h0; clear m_h0
  clear F_c
  go_wp2_with fail
  refine (laws_eqByteSS.calls _ _ _ _ _ _ _ _ _ (Kd.S_reads' F_h0.out.s).2.2 (Kd.S_reads' F_h0.out.s).2.1 (Kd.S_reads' F_w0.out.s).2.2 (Kd.S_reads' F_w0.out.s).2.1 H4.out).mono ?_
  rintro e_ w14 ⟨rfl, h_⟩; have hb := h_.below; clear h_
  have n_ := Aside0.mk (F_w0.out.below hb); clear F_w0; have F_w0 := n_; clear n_
  have n_ := Aside0.mk (F_g0.out.below hb); clear F_g0; have F_g0 := n_; clear n_
  have n_ := Aside0.mk (F_h0.out.below hb); clear F_h0; have F_h0 := n_; clear n_
  have Z14 := Aside0.mk (hb.size)
  have n_ := Aside0.mk (below_step HB.out hb); clear HB; have HB := n_; clear n_
  clear hb
  clear F_h0
  go_wp2_with fail
  have HC_ := (laws_heldByteSS.calls _ _ _ _ _ _ _ (Kd.S_reads' F_g0.out.s).2.2 (by rw [HLEN.out]; exact (Kd.S_reads' F_g0.out.s).2.1) H8.out : Calls Try.prog _ _ w14 _)
  rw [HLEN.out] at HC_
  refine HC_.mono ?_
  clear HC_
  rintro e_ w15 ⟨rfl, h_⟩; have hb := h_.below; clear h_
  have n_ := Aside0.mk (F_w0.out.below hb); clear F_w0; have F_w0 := n_; clear n_
  have n_ := Aside0.mk (F_g0.out.below hb); clear F_g0; have F_g0 := n_; clear n_
  have Z15 := Aside0.mk (hb.size)
  have n_ := Aside0.mk (below_step HB.out hb); clear HB; have HB := n_; clear n_
  clear hb
  go_wp2
  go_ret
  exact ⟨rfl, HB.out⟩
end Go.Proofs.Ytjckchadcpaijaa.WalkFnExactScan
