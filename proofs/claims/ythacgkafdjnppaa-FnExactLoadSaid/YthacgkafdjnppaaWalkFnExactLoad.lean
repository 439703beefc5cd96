/- The walk of the law FnExactLoad over the printed contracts. -/
import Derived.Test.YthacgkafdjnppaaXUm4
import Derived.Test.YthacgkafdjnppaaYOpenWin
namespace Go.Proofs.Ythacgkafdjnppaa.WalkFnExactLoad
open Go.RowKit Go.Proofs.Ythacgkafdjnppaa Go.Proofs.Ythacgkafdjnppaa.XU Go.Proofs.YthacgkafdjnppaaW.PrintWords Go.Proofs.YthacgkafdjnppaaW.PrintLast Go.Proofs.YthacgkafdjnppaaW.PrintMore
set_option linter.unusedVariables false
set_option linter.unusedSimpArgs false
theorem heap_alloc (w : World) (o : Obj) : (w.alloc o).heap[w.heap.size]? = some o := Array.getElem?_push_size
structure Bx (w : World) (lo hi gb : Nat) (cs : Array Value) (t : Nat) : Prop where
  b : w.heap[gb]? = some (.cells cs t (0, 0))
  l : lo ≤ gb
  u : gb < hi
  le : hi ≤ w.heap.size
theorem Bx.below {w w1 : World} {lo hi gb t : Nat} {cs : Array Value} (h : Bx w lo hi gb cs t) (hb : Below w.heap.size w w1) : Bx w1 lo hi gb cs t := ⟨by obtain ⟨_, _, _, _, q⟩ := hb; rw [q gb (Nat.lt_of_lt_of_le h.u h.le)]; exact h.b, h.l, h.u, Nat.le_trans h.le hb.size⟩
theorem Bx.kept {w w1 : World} {lo hi lo2 hi2 gb t : Nat} {cs : Array Value} (h : Bx w lo hi gb cs t) {P : Nat → Prop} (hk : Kept w w1 P) (hP : ∀ k, P k → OpenWin.win lo2 hi2 k) (hd : hi ≤ lo2 ∨ hi2 ≤ lo) : Bx w1 lo hi gb cs t :=
  ⟨by rw [hk.2 gb (Nat.lt_of_lt_of_le h.u h.le) (fun hp => by have := hP _ hp; have := h.l; have := h.u; unfold OpenWin.win at *; omega)]; exact h.b, h.l, h.u, Nat.le_trans h.le hk.1⟩
set_option maxHeartbeats 16000000 in
set_option maxRecDepth 100000 in
theorem walk (h : List Int) (l : List S58) (ls : List S65) (R : List S51) (cd z m1 m2 : Int) (G : List S51) (L1 : List Int) (ls1 : List S65) (k0 k1 k2 k3 k4 k5 k6 k7 k8 : Nat) (h0 : laws_szDevice.f k0 h l 1048576 = some z) (h1 : laws_toDevice.f k1 h l = some (h, ls)) (h2 : spec_Load.f k2 h ls = some (R, cd)) (h3 : impl_Load.f k3 h ls = some (R, cd)) (h4 : laws_eqPairS.f k4 R R = some true) (h5 : laws_eqDevice.f k5 h ls h ls = some true) (h6 : laws_markDevice.f k6 h ls 1 = some (m1, L1, ls1)) (h7 : laws_markPairS.f k7 R 1 = some (m2, G)) (h8 : laws_heldPairS.f k8 G 1 = some m2) (hlen : G.length = R.length) (q0 : 0 ≤ z) (q1 : 0 ≤ m1) (q2 : 0 ≤ m2) (A0_0 : Option Addr) (c0_0 : Nat) (A0_1 : Option Addr) (c0_1 : Nat) (w : World) (hr0_0 : Kd.C (Kd.int .u8) w A0_0 h.length h) (hc0_0 : h.length ≤ c0_0) (hr0_1 : Kd.C k58 w A0_1 l.length l) (hc0_1 : l.length ≤ c0_1) :
    Calls Try.prog 3 #[.agg #[.slice A0_0 h.length c0_0, .slice A0_1 l.length c0_1]] w fun e w' => e = .returned (.bool true) ∧ Below w.heap.size w w' := by
  have H0 := Aside0.mk h0
  have H1 := Aside0.mk h1
  have H2 := Aside0.mk h2
  have H3 := Aside0.mk h3
  have H4 := Aside0.mk h4
  have H5 := Aside0.mk h5
  have H6 := Aside0.mk h6
  have H7 := Aside0.mk h7
  have H8 := Aside0.mk h8
  have HR0_0 := Aside0.mk hr0_0
  have HC0_0 := Aside0.mk hc0_0
  have HR0_1 := Aside0.mk hr0_1
  have HC0_1 := Aside0.mk hc0_1
  have HB := Aside0.mk (Below.refl w.heap.size w)
  have HLEN := Aside0.mk hlen
  have t0 : decide (z < 0) = false := decide_eq_false (by omega)
  have t1 : decide (m1 < 0) = false := decide_eq_false (by omega)
  have t2 : decide (m2 < 0) = false := decide_eq_false (by omega)
  clear h0 h1 h2 h3 h4 h5 h6 h7 h8 hr0_0 hc0_0 hr0_1 hc0_1 hlen q0 q1 q2
  go_enter Try.func3, Try.ntmps3
  go_wp2_with ((with_reducible refine gate_dst (N := 1) rfl ?_); refine box_event ?hg (N := 1) ?hd (cs := #[.slice A0_0 h.length c0_0, .slice A0_1 l.length c0_1]) (t := 25) ?hr ?_; (case hd => rfl); (case hg => rfl); (case hr => first | (go_simp; done) | (go_simp; rfl)); intro gb0 hg w1 hbox hb; have F_bx0 := Aside0.mk (Bx.mk (lo := w.heap.size) (hi := w1.heap.size) hbox (by rw [hg]; exact Nat.le_refl _) (Array.getElem?_eq_some_iff.1 hbox).1 (Nat.le_refl _)); have Z1 := Aside0.mk (hb.size); have n_ := Aside0.mk (below_step HB.out hb); clear HB; have HB := n_; clear n_; clear hb hbox hg; have cbx0_0_w1 : w1.cell? ⟨gb0, 0, none⟩ = some (.slice A0_0 h.length c0_0) := (blk_cell F_bx0.out.b 0).trans rfl; have cbx0_1_w1 : w1.cell? ⟨gb0, 1, none⟩ = some (.slice A0_1 l.length c0_1) := (blk_cell F_bx0.out.b 1).trans rfl)
  go_wp2_with fail
  refine (laws_szDevice.calls _ _ _ _ _ _ _ _ _ _ (Kd.C_below HR0_0.out HB.out) HC0_0.out (Kd.C_below HR0_1.out HB.out) HC0_1.out H0.out).mono ?_
  rintro e_ w2 ⟨rfl, h_⟩; have hb := h_; clear h_
  have n_ := Aside0.mk (F_bx0.out.below hb); clear F_bx0; have F_bx0 := n_; clear n_
  have Z2 := Aside0.mk (hb.size)
  have n_ := Aside0.mk (below_step HB.out hb); clear HB; have HB := n_; clear n_
  clear cbx0_0_w1 cbx0_1_w1
  have cbx0_0_w2 : w2.cell? ⟨gb0, 0, none⟩ = some (.slice A0_0 h.length c0_0) := (blk_cell F_bx0.out.b 0).trans rfl
  have cbx0_1_w2 : w2.cell? ⟨gb0, 1, none⟩ = some (.slice A0_1 l.length c0_1) := (blk_cell F_bx0.out.b 1).trans rfl
  clear hb
  go_wp2_with fail
  refine (laws_toDevice.calls _ _ _ _ _ _ _ _ _ _ (Kd.C_below HR0_0.out HB.out) HC0_0.out (Kd.C_below HR0_1.out HB.out) HC0_1.out H1.out).mono ?_
  rintro e_ w3 ⟨v0_a, v1_a, rfl, h0_, h1_, hb⟩
  have m_a := Aside0.mk (laws_markDevice.DW.of (B := w.heap.size) h0_ h1_ HB.out.size); clear h0_ h1_
  have n_ := Aside0.mk (F_bx0.out.below hb); clear F_bx0; have F_bx0 := n_; clear n_
  have Z3 := Aside0.mk (hb.size)
  have n_ := Aside0.mk (below_step HB.out hb); clear HB; have HB := n_; clear n_
  clear cbx0_0_w2 cbx0_1_w2
  have cbx0_0_w3 : w3.cell? ⟨gb0, 0, none⟩ = some (.slice A0_0 h.length c0_0) := (blk_cell F_bx0.out.b 0).trans rfl
  have cbx0_1_w3 : w3.cell? ⟨gb0, 1, none⟩ = some (.slice A0_1 l.length c0_1) := (blk_cell F_bx0.out.b 1).trans rfl
  clear hb
  obtain ⟨A0_a, c0_a, e_⟩ := Kd.R_slice m_a.out.r; subst e_; obtain ⟨A1_a, c1_a, e_⟩ := Kd.S_slice m_a.out.s; subst e_; have F_a := m_a; clear m_a
  go_wp2_with fail
  refine (spec_Load.calls _ _ _ _ _ _ _ _ _ _ (Kd.R_reads' F_a.out.r).2.2 (Kd.R_reads' F_a.out.r).2.1 (Kd.S_reads' F_a.out.s).2.2 (Kd.S_reads' F_a.out.s).2.1 H2.out).mono ?_
  rintro e_ w4 ⟨v_w0, rfl, h_w0, hb⟩
  have m_w0 := Aside0.mk (OpenWin.RW.of (B := w.heap.size) (Kd.R_mono h_w0 (fun _ _ => trivial)) HB.out.size)
  clear h_w0
  have n_ := Aside0.mk (F_bx0.out.below hb); clear F_bx0; have F_bx0 := n_; clear n_
  have n_ := Aside0.mk (F_a.out.below hb); clear F_a; have F_a := n_; clear n_
  have Z4 := Aside0.mk (hb.size)
  have n_ := Aside0.mk (below_step HB.out hb); clear HB; have HB := n_; clear n_
  clear cbx0_0_w3 cbx0_1_w3
  have cbx0_0_w4 : w4.cell? ⟨gb0, 0, none⟩ = some (.slice A0_0 h.length c0_0) := (blk_cell F_bx0.out.b 0).trans rfl
  have cbx0_1_w4 : w4.cell? ⟨gb0, 1, none⟩ = some (.slice A0_1 l.length c0_1) := (blk_cell F_bx0.out.b 1).trans rfl
  clear hb
  obtain ⟨A_w0, c_w0, e_w0, _, _⟩ := m_w0.out.reads; subst e_w0; have F_w0 := m_w0; clear m_w0
  clear F_a
  go_wp2_with fail
  refine (laws_toDevice.calls _ _ _ _ _ _ _ _ _ _ (Kd.C_below HR0_0.out HB.out) HC0_0.out (Kd.C_below HR0_1.out HB.out) HC0_1.out H1.out).mono ?_
  rintro e_ w5 ⟨v0_x0, v1_x0, rfl, h0_, h1_, hb⟩
  have m_x0 := Aside0.mk (laws_markDevice.DW.of (B := w.heap.size) h0_ h1_ HB.out.size); clear h0_ h1_
  have n_ := Aside0.mk (F_bx0.out.below hb); clear F_bx0; have F_bx0 := n_; clear n_
  have n_ := Aside0.mk (F_w0.out.below hb); clear F_w0; have F_w0 := n_; clear n_
  have Z5 := Aside0.mk (hb.size)
  have n_ := Aside0.mk (below_step HB.out hb); clear HB; have HB := n_; clear n_
  clear cbx0_0_w4 cbx0_1_w4
  have cbx0_0_w5 : w5.cell? ⟨gb0, 0, none⟩ = some (.slice A0_0 h.length c0_0) := (blk_cell F_bx0.out.b 0).trans rfl
  have cbx0_1_w5 : w5.cell? ⟨gb0, 1, none⟩ = some (.slice A0_1 l.length c0_1) := (blk_cell F_bx0.out.b 1).trans rfl
  clear hb
  obtain ⟨A0_x0, c0_x0, e_⟩ := Kd.R_slice m_x0.out.r; subst e_; obtain ⟨A1_x0, c1_x0, e_⟩ := Kd.S_slice m_x0.out.s; subst e_; have F_x0 := m_x0; clear m_x0
  have cabx0_0 : ∀ o_, (w5.alloc o_).cell? ⟨gb0, 0, none⟩ = some (.slice A0_0 h.length c0_0) := fun o_ => (blk_cell (blk_alloc F_bx0.out.b o_) 0).trans rfl
  have cabx0_1 : ∀ o_, (w5.alloc o_).cell? ⟨gb0, 1, none⟩ = some (.slice A0_1 l.length c0_1) := fun o_ => (blk_cell (blk_alloc F_bx0.out.b o_) 1).trans rfl
  go_wp2_with fail
  clear cabx0_0 cabx0_1
  obtain ⟨w6, hnw⟩ : ∃ W_, W_ = w5.alloc (.cells #[.slice A0_x0 h.length c0_x0, .slice A1_x0 ls.length c1_x0] 32) := ⟨_, rfl⟩
  obtain ⟨gb1, hg⟩ : ∃ g_, g_ = w5.heap.size := ⟨_, rfl⟩
  rw [← hnw, ← hg]
  have hbox : w6.heap[gb1]? = some (.cells #[.slice A0_x0 h.length c0_x0, .slice A1_x0 ls.length c1_x0] 32 (0, 0)) := by rw [hnw, hg]; exact heap_alloc _ _
  have hb : Below w5.heap.size w5 w6 := by rw [hnw]; exact below_alloc (Below.refl _ _) _
  have F_bx1 := Aside0.mk (Bx.mk (lo := w5.heap.size) (hi := w6.heap.size) hbox (by rw [hg]; exact Nat.le_refl _) (Array.getElem?_eq_some_iff.1 hbox).1 (Nat.le_refl _))
  clear hnw
  have n_ := Aside0.mk (F_bx0.out.below hb); clear F_bx0; have F_bx0 := n_; clear n_
  have n_ := Aside0.mk (F_w0.out.below hb); clear F_w0; have F_w0 := n_; clear n_
  have n_ := Aside0.mk (F_x0.out.below hb); clear F_x0; have F_x0 := n_; clear n_
  have Z6 := Aside0.mk (hb.size)
  have n_ := Aside0.mk (below_step HB.out hb); clear HB; have HB := n_; clear n_
  clear hb hbox hg
  clear cbx0_0_w5 cbx0_1_w5
  have cbx0_0_w6 : w6.cell? ⟨gb0, 0, none⟩ = some (.slice A0_0 h.length c0_0) := (blk_cell F_bx0.out.b 0).trans rfl
  have cbx0_1_w6 : w6.cell? ⟨gb0, 1, none⟩ = some (.slice A0_1 l.length c0_1) := (blk_cell F_bx0.out.b 1).trans rfl
  have cbx1_0_w6 : w6.cell? ⟨gb1, 0, none⟩ = some (.slice A0_x0 h.length c0_x0) := (blk_cell F_bx1.out.b 0).trans rfl
  have cbx1_1_w6 : w6.cell? ⟨gb1, 1, none⟩ = some (.slice A1_x0 ls.length c1_x0) := (blk_cell F_bx1.out.b 1).trans rfl
  go_wp2_with fail
  refine (impl_Load.calls _ _ _ _ _ _ _ _ _ _ (Kd.R_reads' F_x0.out.r).2.2 (Kd.R_reads' F_x0.out.r).2.1 (Kd.S_reads' F_x0.out.s).2.2 (Kd.S_reads' F_x0.out.s).2.1 H3.out).mono ?_
  rintro e_ w7 ⟨v_g0, rfl, h_g0, hb⟩
  have m_g0 := Aside0.mk (OpenWin.RW.of (B := w.heap.size) (Kd.R_mono h_g0 (fun _ _ => trivial)) HB.out.size)
  clear h_g0
  have n_ := Aside0.mk (F_bx0.out.below hb); clear F_bx0; have F_bx0 := n_; clear n_
  have n_ := Aside0.mk (F_w0.out.below hb); clear F_w0; have F_w0 := n_; clear n_
  have n_ := Aside0.mk (F_x0.out.below hb); clear F_x0; have F_x0 := n_; clear n_
  have n_ := Aside0.mk (F_bx1.out.below hb); clear F_bx1; have F_bx1 := n_; clear n_
  have Z7 := Aside0.mk (hb.size)
  have n_ := Aside0.mk (below_step HB.out hb); clear HB; have HB := n_; clear n_
  clear cbx0_0_w6 cbx0_1_w6 cbx1_0_w6 cbx1_1_w6
  have cbx0_0_w7 : w7.cell? ⟨gb0, 0, none⟩ = some (.slice A0_0 h.length c0_0) := (blk_cell F_bx0.out.b 0).trans rfl
  have cbx0_1_w7 : w7.cell? ⟨gb0, 1, none⟩ = some (.slice A0_1 l.length c0_1) := (blk_cell F_bx0.out.b 1).trans rfl
  have cbx1_0_w7 : w7.cell? ⟨gb1, 0, none⟩ = some (.slice A0_x0 h.length c0_x0) := (blk_cell F_bx1.out.b 0).trans rfl
  have cbx1_1_w7 : w7.cell? ⟨gb1, 1, none⟩ = some (.slice A1_x0 ls.length c1_x0) := (blk_cell F_bx1.out.b 1).trans rfl
  clear hb
  obtain ⟨A_g0, c_g0, e_g0, _, _⟩ := m_g0.out.reads; subst e_g0; have F_g0 := m_g0; clear m_g0
  go_wp2_with fail
  refine (laws_eqPairS.calls _ _ _ _ _ _ _ _ _ (Kd.R_reads' F_g0.out.r).2.2 (Kd.R_reads' F_g0.out.r).2.1 (Kd.R_reads' F_w0.out.r).2.2 (Kd.R_reads' F_w0.out.r).2.1 H4.out).mono ?_
  rintro e_ w8 ⟨rfl, h_⟩; have hb := h_; clear h_
  have n_ := Aside0.mk (F_bx0.out.below hb); clear F_bx0; have F_bx0 := n_; clear n_
  have n_ := Aside0.mk (F_w0.out.below hb); clear F_w0; have F_w0 := n_; clear n_
  have n_ := Aside0.mk (F_x0.out.below hb); clear F_x0; have F_x0 := n_; clear n_
  have n_ := Aside0.mk (F_bx1.out.below hb); clear F_bx1; have F_bx1 := n_; clear n_
  have n_ := Aside0.mk (F_g0.out.below hb); clear F_g0; have F_g0 := n_; clear n_
  have Z8 := Aside0.mk (hb.size)
  have n_ := Aside0.mk (below_step HB.out hb); clear HB; have HB := n_; clear n_
  clear cbx0_0_w7 cbx0_1_w7 cbx1_0_w7 cbx1_1_w7
  have cbx0_0_w8 : w8.cell? ⟨gb0, 0, none⟩ = some (.slice A0_0 h.length c0_0) := (blk_cell F_bx0.out.b 0).trans rfl
  have cbx0_1_w8 : w8.cell? ⟨gb0, 1, none⟩ = some (.slice A0_1 l.length c0_1) := (blk_cell F_bx0.out.b 1).trans rfl
  have cbx1_0_w8 : w8.cell? ⟨gb1, 0, none⟩ = some (.slice A0_x0 h.length c0_x0) := (blk_cell F_bx1.out.b 0).trans rfl
  have cbx1_1_w8 : w8.cell? ⟨gb1, 1, none⟩ = some (.slice A1_x0 ls.length c1_x0) := (blk_cell F_bx1.out.b 1).trans rfl
  clear hb
  go_wp2_with fail
  refine start_ (n := 5) (S := fun w_ => w_.cell? ⟨gb0, 0, none⟩ = some (.slice A0_0 h.length c0_0) ∧ w_.cell? ⟨gb0, 1, none⟩ = some (.slice A0_1 l.length c0_1) ∧ w_.cell? ⟨gb1, 0, none⟩ = some (.slice A0_x0 h.length c0_x0) ∧ w_.cell? ⟨gb1, 1, none⟩ = some (.slice A1_x0 ls.length c1_x0)) (ds := []) #[false, false, false, false, false] (by kernel_rfl) rfl rfl ⟨cbx0_0_w8, cbx0_1_w8, cbx1_0_w8, cbx1_1_w8⟩ (fun hHeld => ?_)
  have hb : Below w8.heap.size w8 w8.drew := below_drew1 (Below.refl _ _)
  generalize w8.drew = w9 at hb hHeld ⊢
  have n_ := Aside0.mk (F_bx0.out.below hb); clear F_bx0; have F_bx0 := n_; clear n_
  have n_ := Aside0.mk (F_w0.out.below hb); clear F_w0; have F_w0 := n_; clear n_
  have n_ := Aside0.mk (F_x0.out.below hb); clear F_x0; have F_x0 := n_; clear n_
  have n_ := Aside0.mk (F_bx1.out.below hb); clear F_bx1; have F_bx1 := n_; clear n_
  have n_ := Aside0.mk (F_g0.out.below hb); clear F_g0; have F_g0 := n_; clear n_
  have Z9 := Aside0.mk (hb.size)
  have n_ := Aside0.mk (below_step HB.out hb); clear HB; have HB := n_; clear n_
  clear cbx0_0_w8 cbx0_1_w8 cbx1_0_w8 cbx1_1_w8
  have cbx0_0_w9 : w9.cell? ⟨gb0, 0, none⟩ = some (.slice A0_0 h.length c0_0) := (blk_cell F_bx0.out.b 0).trans rfl
  have cbx0_1_w9 : w9.cell? ⟨gb0, 1, none⟩ = some (.slice A0_1 l.length c0_1) := (blk_cell F_bx0.out.b 1).trans rfl
  have cbx1_0_w9 : w9.cell? ⟨gb1, 0, none⟩ = some (.slice A0_x0 h.length c0_x0) := (blk_cell F_bx1.out.b 0).trans rfl
  have cbx1_1_w9 : w9.cell? ⟨gb1, 1, none⟩ = some (.slice A1_x0 ls.length c1_x0) := (blk_cell F_bx1.out.b 1).trans rfl
  clear hb
  refine take_ (i := 0) (N := some 41) (v := ?_) (a' := ?_) #[true, false, false, false, false] rfl rfl (by kernel_rfl) (fun _ _ _ h => h) (Or.inl ⟨by rfl, ?_⟩) hHeld ?_ ?_
  rotate_left
  · rintro w' ⟨s0, s1, s2, s3⟩
    go_simp
    with_reducible rfl
  rotate_left
  · simp only [Act.put, List.setIfInBounds_toArray, List.set_cons_zero, List.set_cons_succ, i64_w, i32_w]
    rfl
  refine take_ (i := 1) (N := some 42) (v := ?_) (a' := ?_) #[true, true, false, false, false] rfl rfl (by kernel_rfl) (fun _ _ _ h => h) (Or.inl ⟨by rfl, ?_⟩) hHeld ?_ ?_
  rotate_left
  · rintro w' ⟨s0, s1, s2, s3⟩
    go_simp
    with_reducible rfl
  rotate_left
  · simp only [Act.put, List.setIfInBounds_toArray, List.set_cons_zero, List.set_cons_succ, i64_w, i32_w]
    rfl
  refine one_ (i := 2) (N := some 43) #[true, true, true, false, false] rfl rfl (by kernel_rfl) (by decide) (fun K hK => ?_)
  refine goes_ Try.func6 (by kernel_rfl) rfl #[.agg #[.slice A0_0 h.length c0_0, .slice A0_1 l.length c0_1]] (by rfl) rfl rfl (by (try simp only [List.map_toArray, List.map_cons, List.map_nil]); first | done | rfl | (simp only [List.length_drop, List.length_take]; rfl)) ?_
  refine (laws_toDevice.calls _ _ _ _ _ _ _ _ _ _ (Kd.C_below HR0_0.out HB.out) HC0_0.out (Kd.C_below HR0_1.out HB.out) HC0_1.out H1.out).mono ?_
  rintro e_ w10 ⟨v0_b, v1_b, rfl, h0_, h1_, hb⟩
  refine ⟨_, rfl, ?_⟩
  have m_b := Aside0.mk (laws_markDevice.DW.of (B := w.heap.size) h0_ h1_ HB.out.size); clear h0_ h1_
  have n_ := Aside0.mk (F_bx0.out.below hb); clear F_bx0; have F_bx0 := n_; clear n_
  have n_ := Aside0.mk (F_w0.out.below hb); clear F_w0; have F_w0 := n_; clear n_
  have n_ := Aside0.mk (F_x0.out.below hb); clear F_x0; have F_x0 := n_; clear n_
  have n_ := Aside0.mk (F_bx1.out.below hb); clear F_bx1; have F_bx1 := n_; clear n_
  have n_ := Aside0.mk (F_g0.out.below hb); clear F_g0; have F_g0 := n_; clear n_
  have Z10 := Aside0.mk (hb.size)
  have n_ := Aside0.mk (below_step HB.out hb); clear HB; have HB := n_; clear n_
  clear cbx0_0_w9 cbx0_1_w9 cbx1_0_w9 cbx1_1_w9
  have cbx0_0_w10 : w10.cell? ⟨gb0, 0, none⟩ = some (.slice A0_0 h.length c0_0) := (blk_cell F_bx0.out.b 0).trans rfl
  have cbx0_1_w10 : w10.cell? ⟨gb0, 1, none⟩ = some (.slice A0_1 l.length c0_1) := (blk_cell F_bx0.out.b 1).trans rfl
  have cbx1_0_w10 : w10.cell? ⟨gb1, 0, none⟩ = some (.slice A0_x0 h.length c0_x0) := (blk_cell F_bx1.out.b 0).trans rfl
  have cbx1_1_w10 : w10.cell? ⟨gb1, 1, none⟩ = some (.slice A1_x0 ls.length c1_x0) := (blk_cell F_bx1.out.b 1).trans rfl
  clear hb
  obtain ⟨A0_b, c0_b, e_⟩ := Kd.R_slice m_b.out.r; subst e_; obtain ⟨A1_b, c1_b, e_⟩ := Kd.S_slice m_b.out.s; subst e_; have F_b := m_b; clear m_b
  refine hK.out _ _ ⟨cbx0_0_w10, cbx0_1_w10, cbx1_0_w10, cbx1_1_w10⟩ (fun hHeld => ?_)
  clear hK K
  refine norm_ (a' := ?_) ?_ ?_
  rotate_left
  · show Act.put _ (some 43) _ = _
    simp only [Act.put, List.setIfInBounds_toArray, List.set_cons_zero, List.set_cons_succ, i64_w, i32_w]
    rfl
  refine one_ (i := 3) (N := some 44) #[true, true, true, true, false] rfl rfl (by kernel_rfl) (by decide) (fun K hK => ?_)
  refine goes_ Try.func9 (by kernel_rfl) rfl #[.agg #[.slice A0_x0 h.length c0_x0, .slice A1_x0 ls.length c1_x0], .agg #[.slice A0_b h.length c0_b, .slice A1_b ls.length c1_b]] (by rfl) rfl rfl (by (try simp only [List.map_toArray, List.map_cons, List.map_nil]); first | done | rfl | (simp only [List.length_drop, List.length_take]; rfl)) ?_
  refine (laws_eqDevice.calls _ _ _ _ _ _ _ _ _ _ _ _ _ _ _ (Kd.R_reads' F_x0.out.r).2.2 (Kd.R_reads' F_x0.out.r).2.1 (Kd.S_reads' F_x0.out.s).2.2 (Kd.S_reads' F_x0.out.s).2.1 (Kd.R_reads' F_b.out.r).2.2 (Kd.R_reads' F_b.out.r).2.1 (Kd.S_reads' F_b.out.s).2.2 (Kd.S_reads' F_b.out.s).2.1 H5.out).mono ?_
  rintro e_ w11 ⟨rfl, h_⟩; have hb := h_; clear h_
  refine ⟨_, rfl, ?_⟩
  have n_ := Aside0.mk (F_bx0.out.below hb); clear F_bx0; have F_bx0 := n_; clear n_
  have n_ := Aside0.mk (F_w0.out.below hb); clear F_w0; have F_w0 := n_; clear n_
  have n_ := Aside0.mk (F_x0.out.below hb); clear F_x0; have F_x0 := n_; clear n_
  have n_ := Aside0.mk (F_bx1.out.below hb); clear F_bx1; have F_bx1 := n_; clear n_
  have n_ := Aside0.mk (F_g0.out.below hb); clear F_g0; have F_g0 := n_; clear n_
  have n_ := Aside0.mk (F_b.out.below hb); clear F_b; have F_b := n_; clear n_
  have Z11 := Aside0.mk (hb.size)
  have n_ := Aside0.mk (below_step HB.out hb); clear HB; have HB := n_; clear n_
  clear cbx0_0_w10 cbx0_1_w10 cbx1_0_w10 cbx1_1_w10
  have cbx0_0_w11 : w11.cell? ⟨gb0, 0, none⟩ = some (.slice A0_0 h.length c0_0) := (blk_cell F_bx0.out.b 0).trans rfl
  have cbx0_1_w11 : w11.cell? ⟨gb0, 1, none⟩ = some (.slice A0_1 l.length c0_1) := (blk_cell F_bx0.out.b 1).trans rfl
  have cbx1_0_w11 : w11.cell? ⟨gb1, 0, none⟩ = some (.slice A0_x0 h.length c0_x0) := (blk_cell F_bx1.out.b 0).trans rfl
  have cbx1_1_w11 : w11.cell? ⟨gb1, 1, none⟩ = some (.slice A1_x0 ls.length c1_x0) := (blk_cell F_bx1.out.b 1).trans rfl
  clear hb
  refine hK.out _ _ ⟨cbx0_0_w11, cbx0_1_w11, cbx1_0_w11, cbx1_1_w11⟩ (fun hHeld => ?_)
  clear hK K
  refine norm_ (a' := ?_) ?_ ?_
  rotate_left
  · show Act.put _ (some 44) _ = _
    simp only [Act.put, List.setIfInBounds_toArray, List.set_cons_zero, List.set_cons_succ, i64_w, i32_w]
    rfl
  refine pure_ (i := 4) (N := some 45) (v := ?_) (a' := ?_) #[true, true, true, true, true] rfl rfl (by kernel_rfl) (fun _ _ _ h => h) (Or.inl ⟨by rfl, ?_⟩) ?_ ?_
  rotate_left
  · intro w'
    go_simp
    with_reducible rfl
  rotate_left
  · simp only [Act.put, List.setIfInBounds_toArray, List.set_cons_zero, List.set_cons_succ, i64_w, i32_w]
    rfl
  refine done_ (by kernel_rfl) ?_
  clear F_b
  go_wp2_with fail
  refine (laws_markDevice.calls _ _ _ _ _ _ _ _ _ _ _ w _ HB.out F_x0.out H6.out).mono ?_
  rintro e_ w12 ⟨rfl, hm_, hb, hk⟩
  have n_ := Aside0.mk (F_bx0.out.kept hk (lo2 := w4.heap.size) (hi2 := w5.heap.size) (fun _ h => h) (by have z1 := Z1.out; have z2 := Z2.out; have z3 := Z3.out; have z4 := Z4.out; have z5 := Z5.out; have z6 := Z6.out; have z7 := Z7.out; have z8 := Z8.out; have z9 := Z9.out; have z10 := Z10.out; have z11 := Z11.out; omega)); clear F_bx0; have F_bx0 := n_; clear n_
  have n_ := Aside0.mk (F_w0.out.kept hk (lo2 := w4.heap.size) (hi2 := w5.heap.size) (fun _ h => h) (by have z1 := Z1.out; have z2 := Z2.out; have z3 := Z3.out; have z4 := Z4.out; have z5 := Z5.out; have z6 := Z6.out; have z7 := Z7.out; have z8 := Z8.out; have z9 := Z9.out; have z10 := Z10.out; have z11 := Z11.out; omega)); clear F_w0; have F_w0 := n_; clear n_
  have n_ := Aside0.mk (F_bx1.out.kept hk (lo2 := w4.heap.size) (hi2 := w5.heap.size) (fun _ h => h) (by have z1 := Z1.out; have z2 := Z2.out; have z3 := Z3.out; have z4 := Z4.out; have z5 := Z5.out; have z6 := Z6.out; have z7 := Z7.out; have z8 := Z8.out; have z9 := Z9.out; have z10 := Z10.out; have z11 := Z11.out; omega)); clear F_bx1; have F_bx1 := n_; clear n_
  have n_ := Aside0.mk (F_g0.out.kept hk (lo2 := w4.heap.size) (hi2 := w5.heap.size) (fun _ h => h) (by have z1 := Z1.out; have z2 := Z2.out; have z3 := Z3.out; have z4 := Z4.out; have z5 := Z5.out; have z6 := Z6.out; have z7 := Z7.out; have z8 := Z8.out; have z9 := Z9.out; have z10 := Z10.out; have z11 := Z11.out; omega)); clear F_g0; have F_g0 := n_; clear n_
  have Z12 := Aside0.mk hk.1
  clear HB; have HB := Aside0.mk hb
  clear cbx0_0_w11 cbx0_1_w11 cbx1_0_w11 cbx1_1_w11
  have cbx0_0_w12 : w12.cell? ⟨gb0, 0, none⟩ = some (.slice A0_0 h.length c0_0) := (blk_cell F_bx0.out.b 0).trans rfl
  have cbx0_1_w12 : w12.cell? ⟨gb0, 1, none⟩ = some (.slice A0_1 l.length c0_1) := (blk_cell F_bx0.out.b 1).trans rfl
  have cbx1_0_w12 : w12.cell? ⟨gb1, 0, none⟩ = some (.slice A0_x0 h.length c0_x0) := (blk_cell F_bx1.out.b 0).trans rfl
  have cbx1_1_w12 : w12.cell? ⟨gb1, 1, none⟩ = some (.slice A1_x0 ls.length c1_x0) := (blk_cell F_bx1.out.b 1).trans rfl
  clear hm_ hb hk
  clear F_x0
  go_wp2_with fail
  refine (laws_eqPairS.calls _ _ _ _ _ _ _ _ _ (Kd.R_reads' F_g0.out.r).2.2 (Kd.R_reads' F_g0.out.r).2.1 (Kd.R_reads' F_w0.out.r).2.2 (Kd.R_reads' F_w0.out.r).2.1 H4.out).mono ?_
  rintro e_ w13 ⟨rfl, h_⟩; have hb := h_; clear h_
  have n_ := Aside0.mk (F_bx0.out.below hb); clear F_bx0; have F_bx0 := n_; clear n_
  have n_ := Aside0.mk (F_w0.out.below hb); clear F_w0; have F_w0 := n_; clear n_
  have n_ := Aside0.mk (F_bx1.out.below hb); clear F_bx1; have F_bx1 := n_; clear n_
  have n_ := Aside0.mk (F_g0.out.below hb); clear F_g0; have F_g0 := n_; clear n_
  have Z13 := Aside0.mk (hb.size)
  have n_ := Aside0.mk (below_step HB.out hb); clear HB; have HB := n_; clear n_
  clear cbx0_0_w12 cbx0_1_w12 cbx1_0_w12 cbx1_1_w12
  have cbx0_0_w13 : w13.cell? ⟨gb0, 0, none⟩ = some (.slice A0_0 h.length c0_0) := (blk_cell F_bx0.out.b 0).trans rfl
  have cbx0_1_w13 : w13.cell? ⟨gb0, 1, none⟩ = some (.slice A0_1 l.length c0_1) := (blk_cell F_bx0.out.b 1).trans rfl
  have cbx1_0_w13 : w13.cell? ⟨gb1, 0, none⟩ = some (.slice A0_x0 h.length c0_x0) := (blk_cell F_bx1.out.b 0).trans rfl
  have cbx1_1_w13 : w13.cell? ⟨gb1, 1, none⟩ = some (.slice A1_x0 ls.length c1_x0) := (blk_cell F_bx1.out.b 1).trans rfl
  clear hb
  go_wp2_with fail
  refine (laws_markPairS.calls _ (OpenWin.win w6.heap.size w7.heap.size) _ _ _ _ _ w _ HB.out F_g0.out.r H7.out).mono ?_
  rintro e_ w14 ⟨rfl, hm_, hb, hk⟩
  have n2_ := Aside0.mk (OpenWin.RW.mk (Kd.R_reok rfl hm_ F_g0.out.r.1) (Nat.le_trans F_g0.out.le hk.1))
  have n_ := Aside0.mk (F_bx0.out.kept hk (lo2 := w6.heap.size) (hi2 := w7.heap.size) (fun _ h => h) (by have z1 := Z1.out; have z2 := Z2.out; have z3 := Z3.out; have z4 := Z4.out; have z5 := Z5.out; have z6 := Z6.out; have z7 := Z7.out; have z8 := Z8.out; have z9 := Z9.out; have z10 := Z10.out; have z11 := Z11.out; have z12 := Z12.out; have z13 := Z13.out; omega)); clear F_bx0; have F_bx0 := n_; clear n_
  have n_ := Aside0.mk (F_w0.out.kept hk (lo2 := w6.heap.size) (hi2 := w7.heap.size) (fun _ h => h) (by have z1 := Z1.out; have z2 := Z2.out; have z3 := Z3.out; have z4 := Z4.out; have z5 := Z5.out; have z6 := Z6.out; have z7 := Z7.out; have z8 := Z8.out; have z9 := Z9.out; have z10 := Z10.out; have z11 := Z11.out; have z12 := Z12.out; have z13 := Z13.out; omega)); clear F_w0; have F_w0 := n_; clear n_
  have n_ := Aside0.mk (F_bx1.out.kept hk (lo2 := w6.heap.size) (hi2 := w7.heap.size) (fun _ h => h) (by have z1 := Z1.out; have z2 := Z2.out; have z3 := Z3.out; have z4 := Z4.out; have z5 := Z5.out; have z6 := Z6.out; have z7 := Z7.out; have z8 := Z8.out; have z9 := Z9.out; have z10 := Z10.out; have z11 := Z11.out; have z12 := Z12.out; have z13 := Z13.out; omega)); clear F_bx1; have F_bx1 := n_; clear n_
  have Z14 := Aside0.mk hk.1
  clear HB; have HB := Aside0.mk hb
  clear cbx0_0_w13 cbx0_1_w13 cbx1_0_w13 cbx1_1_w13
  have cbx0_0_w14 : w14.cell? ⟨gb0, 0, none⟩ = some (.slice A0_0 h.length c0_0) := (blk_cell F_bx0.out.b 0).trans rfl
  have cbx0_1_w14 : w14.cell? ⟨gb0, 1, none⟩ = some (.slice A0_1 l.length c0_1) := (blk_cell F_bx0.out.b 1).trans rfl
  have cbx1_0_w14 : w14.cell? ⟨gb1, 0, none⟩ = some (.slice A0_x0 h.length c0_x0) := (blk_cell F_bx1.out.b 0).trans rfl
  have cbx1_1_w14 : w14.cell? ⟨gb1, 1, none⟩ = some (.slice A1_x0 ls.length c1_x0) := (blk_cell F_bx1.out.b 1).trans rfl
  clear F_g0; have F_g0 := n2_; clear n2_ hm_ hb hk
  go_wp2_with fail
  have HC_ := (laws_heldPairS.calls _ _ _ _ _ _ _ (Kd.R_reads' F_g0.out.r).2.2 (by rw [HLEN.out]; exact (Kd.R_reads' F_g0.out.r).2.1) H8.out : Calls Try.prog _ _ w14 _)
  rw [HLEN.out] at HC_
  refine HC_.mono ?_
  clear HC_
  rintro e_ w15 ⟨rfl, h_⟩; have hb := h_; clear h_
  have n_ := Aside0.mk (F_bx0.out.below hb); clear F_bx0; have F_bx0 := n_; clear n_
  have n_ := Aside0.mk (F_w0.out.below hb); clear F_w0; have F_w0 := n_; clear n_
  have n_ := Aside0.mk (F_bx1.out.below hb); clear F_bx1; have F_bx1 := n_; clear n_
  have n_ := Aside0.mk (F_g0.out.below hb); clear F_g0; have F_g0 := n_; clear n_
  have Z15 := Aside0.mk (hb.size)
  have n_ := Aside0.mk (below_step HB.out hb); clear HB; have HB := n_; clear n_
  clear cbx0_0_w14 cbx0_1_w14 cbx1_0_w14 cbx1_1_w14
  have cbx0_0_w15 : w15.cell? ⟨gb0, 0, none⟩ = some (.slice A0_0 h.length c0_0) := (blk_cell F_bx0.out.b 0).trans rfl
  have cbx0_1_w15 : w15.cell? ⟨gb0, 1, none⟩ = some (.slice A0_1 l.length c0_1) := (blk_cell F_bx0.out.b 1).trans rfl
  have cbx1_0_w15 : w15.cell? ⟨gb1, 0, none⟩ = some (.slice A0_x0 h.length c0_x0) := (blk_cell F_bx1.out.b 0).trans rfl
  have cbx1_1_w15 : w15.cell? ⟨gb1, 1, none⟩ = some (.slice A1_x0 ls.length c1_x0) := (blk_cell F_bx1.out.b 1).trans rfl
  clear hb
  go_wp2_with fail
  refine (laws_toDevice.calls _ _ _ _ _ _ _ _ _ _ (Kd.C_below HR0_0.out HB.out) HC0_0.out (Kd.C_below HR0_1.out HB.out) HC0_1.out H1.out).mono ?_
  rintro e_ w16 ⟨v0_c, v1_c, rfl, h0_, h1_, hb⟩
  have m_c := Aside0.mk (laws_markDevice.DW.of (B := w.heap.size) h0_ h1_ HB.out.size); clear h0_ h1_
  have n_ := Aside0.mk (F_bx0.out.below hb); clear F_bx0; have F_bx0 := n_; clear n_
  have n_ := Aside0.mk (F_w0.out.below hb); clear F_w0; have F_w0 := n_; clear n_
  have n_ := Aside0.mk (F_bx1.out.below hb); clear F_bx1; have F_bx1 := n_; clear n_
  have n_ := Aside0.mk (F_g0.out.below hb); clear F_g0; have F_g0 := n_; clear n_
  have Z16 := Aside0.mk (hb.size)
  have n_ := Aside0.mk (below_step HB.out hb); clear HB; have HB := n_; clear n_
  clear cbx0_0_w15 cbx0_1_w15 cbx1_0_w15 cbx1_1_w15
  have cbx0_0_w16 : w16.cell? ⟨gb0, 0, none⟩ = some (.slice A0_0 h.length c0_0) := (blk_cell F_bx0.out.b 0).trans rfl
  have cbx0_1_w16 : w16.cell? ⟨gb0, 1, none⟩ = some (.slice A0_1 l.length c0_1) := (blk_cell F_bx0.out.b 1).trans rfl
  have cbx1_0_w16 : w16.cell? ⟨gb1, 0, none⟩ = some (.slice A0_x0 h.length c0_x0) := (blk_cell F_bx1.out.b 0).trans rfl
  have cbx1_1_w16 : w16.cell? ⟨gb1, 1, none⟩ = some (.slice A1_x0 ls.length c1_x0) := (blk_cell F_bx1.out.b 1).trans rfl
  clear hb
  obtain ⟨A0_c, c0_c, e_⟩ := Kd.R_slice m_c.out.r; subst e_; obtain ⟨A1_c, c1_c, e_⟩ := Kd.S_slice m_c.out.s; subst e_; have F_c := m_c; clear m_c
  go_wp2_with fail
  refine (impl_Load.calls _ _ _ _ _ _ _ _ _ _ (Kd.R_reads' F_c.out.r).2.2 (Kd.R_reads' F_c.out.r).2.1 (Kd.S_reads' F_c.out.s).2.2 (Kd.S_reads' F_c.out.s).2.1 H3.out).mono ?_
  rintro e_ w17 ⟨v_h0, rfl, h_h0, hb⟩
  have m_h0 := Aside0.mk (OpenWin.RW.of (B := w.heap.size) (Kd.R_mono h_h0 (fun _ _ => trivial)) HB.out.size)
  clear h_h0
  have n_ := Aside0.mk (F_bx0.out.below hb); clear F_bx0; have F_bx0 := n_; clear n_
  have n_ := Aside0.mk (F_w0.out.below hb); clear F_w0; have F_w0 := n_; clear n_
  have n_ := Aside0.mk (F_bx1.out.below hb); clear F_bx1; have F_bx1 := n_; clear n_
  have n_ := Aside0.mk (F_g0.out.below hb); clear F_g0; have F_g0 := n_; clear n_
  have n_ := Aside0.mk (F_c.out.below hb); clear F_c; have F_c := n_; clear n_
  have Z17 := Aside0.mk (hb.size)
  have n_ := Aside0.mk (below_step HB.out hb); clear HB; have HB := n_; clear n_
  clear cbx0_0_w16 cbx0_1_w16 cbx1_0_w16 cbx1_1_w16
  have cbx0_0_w17 : w17.cell? ⟨gb0, 0, none⟩ = some (.slice A0_0 h.length c0_0) := (blk_cell F_bx0.out.b 0).trans rfl
  have cbx0_1_w17 : w17.cell? ⟨gb0, 1, none⟩ = some (.slice A0_1 l.length c0_1) := (blk_cell F_bx0.out.b 1).trans rfl
  have cbx1_0_w17 : w17.cell? ⟨gb1, 0, none⟩ = some (.slice A0_x0 h.length c0_x0) := (blk_cell F_bx1.out.b 0).trans rfl
  have cbx1_1_w17 : w17.cell? ⟨gb1, 1, none⟩ = some (.slice A1_x0 ls.length c1_x0) := (blk_cell F_bx1.out.b 1).trans rfl
  clear hb
  obtain ⟨A_h0, c_h0, e_h0, _, _⟩ := m_h0.out.reads; subst e_h0; have F_h0 := m_h0; clear m_h0
  clear F_c
  go_wp2_with fail
  refine (laws_eqPairS.calls _ _ _ _ _ _ _ _ _ (Kd.R_reads' F_h0.out.r).2.2 (Kd.R_reads' F_h0.out.r).2.1 (Kd.R_reads' F_w0.out.r).2.2 (Kd.R_reads' F_w0.out.r).2.1 H4.out).mono ?_
  rintro e_ w18 ⟨rfl, h_⟩; have hb := h_; clear h_
  have n_ := Aside0.mk (F_bx0.out.below hb); clear F_bx0; have F_bx0 := n_; clear n_
  have n_ := Aside0.mk (F_w0.out.below hb); clear F_w0; have F_w0 := n_; clear n_
  have n_ := Aside0.mk (F_bx1.out.below hb); clear F_bx1; have F_bx1 := n_; clear n_
  have n_ := Aside0.mk (F_g0.out.below hb); clear F_g0; have F_g0 := n_; clear n_
  have n_ := Aside0.mk (F_h0.out.below hb); clear F_h0; have F_h0 := n_; clear n_
  have Z18 := Aside0.mk (hb.size)
  have n_ := Aside0.mk (below_step HB.out hb); clear HB; have HB := n_; clear n_
  clear cbx0_0_w17 cbx0_1_w17 cbx1_0_w17 cbx1_1_w17
  have cbx0_0_w18 : w18.cell? ⟨gb0, 0, none⟩ = some (.slice A0_0 h.length c0_0) := (blk_cell F_bx0.out.b 0).trans rfl
  have cbx0_1_w18 : w18.cell? ⟨gb0, 1, none⟩ = some (.slice A0_1 l.length c0_1) := (blk_cell F_bx0.out.b 1).trans rfl
  have cbx1_0_w18 : w18.cell? ⟨gb1, 0, none⟩ = some (.slice A0_x0 h.length c0_x0) := (blk_cell F_bx1.out.b 0).trans rfl
  have cbx1_1_w18 : w18.cell? ⟨gb1, 1, none⟩ = some (.slice A1_x0 ls.length c1_x0) := (blk_cell F_bx1.out.b 1).trans rfl
  clear hb
  clear F_h0
  go_wp2_with fail
  have HC_ := (laws_heldPairS.calls _ _ _ _ _ _ _ (Kd.R_reads' F_g0.out.r).2.2 (by rw [HLEN.out]; exact (Kd.R_reads' F_g0.out.r).2.1) H8.out : Calls Try.prog _ _ w18 _)
  rw [HLEN.out] at HC_
  refine HC_.mono ?_
  clear HC_
  rintro e_ w19 ⟨rfl, h_⟩; have hb := h_; clear h_
  have n_ := Aside0.mk (F_bx0.out.below hb); clear F_bx0; have F_bx0 := n_; clear n_
  have n_ := Aside0.mk (F_w0.out.below hb); clear F_w0; have F_w0 := n_; clear n_
  have n_ := Aside0.mk (F_bx1.out.below hb); clear F_bx1; have F_bx1 := n_; clear n_
  have n_ := Aside0.mk (F_g0.out.below hb); clear F_g0; have F_g0 := n_; clear n_
  have Z19 := Aside0.mk (hb.size)
  have n_ := Aside0.mk (below_step HB.out hb); clear HB; have HB := n_; clear n_
  clear cbx0_0_w18 cbx0_1_w18 cbx1_0_w18 cbx1_1_w18
  have cbx0_0_w19 : w19.cell? ⟨gb0, 0, none⟩ = some (.slice A0_0 h.length c0_0) := (blk_cell F_bx0.out.b 0).trans rfl
  have cbx0_1_w19 : w19.cell? ⟨gb0, 1, none⟩ = some (.slice A0_1 l.length c0_1) := (blk_cell F_bx0.out.b 1).trans rfl
  have cbx1_0_w19 : w19.cell? ⟨gb1, 0, none⟩ = some (.slice A0_x0 h.length c0_x0) := (blk_cell F_bx1.out.b 0).trans rfl
  have cbx1_1_w19 : w19.cell? ⟨gb1, 1, none⟩ = some (.slice A1_x0 ls.length c1_x0) := (blk_cell F_bx1.out.b 1).trans rfl
  clear hb
  go_wp2
  go_ret
  exact ⟨rfl, HB.out⟩
set_option maxHeartbeats 16000000 in
set_option maxRecDepth 100000 in
theorem long (h : List Int) (l : List S58) (z : Int) (k0 : Nat) (h0 : laws_szDevice.f k0 h l 1048576 = some z) (hz : z < 0) (A0_0 : Option Addr) (c0_0 : Nat) (A0_1 : Option Addr) (c0_1 : Nat) (w : World) (hr0_0 : Kd.C (Kd.int .u8) w A0_0 h.length h) (hc0_0 : h.length ≤ c0_0) (hr0_1 : Kd.C k58 w A0_1 l.length l) (hc0_1 : l.length ≤ c0_1) :
    Calls Try.prog 3 #[.agg #[.slice A0_0 h.length c0_0, .slice A0_1 l.length c0_1]] w fun e w' => e = .returned (.bool true) ∧ Below w.heap.size w w' := by
  have H0 := Aside0.mk h0
  have HR0_0 := Aside0.mk hr0_0
  have HC0_0 := Aside0.mk hc0_0
  have HR0_1 := Aside0.mk hr0_1
  have HC0_1 := Aside0.mk hc0_1
  have HB := Aside0.mk (Below.refl w.heap.size w)
  have t0 : decide (z < 0) = true := decide_eq_true hz
  clear h0 hr0_0 hc0_0 hr0_1 hc0_1 hz
  go_enter Try.func3, Try.ntmps3
  go_wp2_with ((with_reducible refine gate_dst (N := 1) rfl ?_); refine box_event ?hg (N := 1) ?hd (cs := #[.slice A0_0 h.length c0_0, .slice A0_1 l.length c0_1]) (t := 25) ?hr ?_; (case hd => rfl); (case hg => rfl); (case hr => first | (go_simp; done) | (go_simp; rfl)); intro gb0 hg w1 hbox hb; have F_bx0 := Aside0.mk (Bx.mk (lo := w.heap.size) (hi := w1.heap.size) hbox (by rw [hg]; exact Nat.le_refl _) (Array.getElem?_eq_some_iff.1 hbox).1 (Nat.le_refl _)); have Z1 := Aside0.mk (hb.size); have n_ := Aside0.mk (below_step HB.out hb); clear HB; have HB := n_; clear n_; clear hb hbox hg; have cbx0_0_w1 : w1.cell? ⟨gb0, 0, none⟩ = some (.slice A0_0 h.length c0_0) := (blk_cell F_bx0.out.b 0).trans rfl; have cbx0_1_w1 : w1.cell? ⟨gb0, 1, none⟩ = some (.slice A0_1 l.length c0_1) := (blk_cell F_bx0.out.b 1).trans rfl)
  go_wp2_with fail
  refine (laws_szDevice.calls _ _ _ _ _ _ _ _ _ _ (Kd.C_below HR0_0.out HB.out) HC0_0.out (Kd.C_below HR0_1.out HB.out) HC0_1.out H0.out).mono ?_
  rintro e_ w2 ⟨rfl, h_⟩; have hb := h_; clear h_
  have n_ := Aside0.mk (F_bx0.out.below hb); clear F_bx0; have F_bx0 := n_; clear n_
  have Z2 := Aside0.mk (hb.size)
  have n_ := Aside0.mk (below_step HB.out hb); clear HB; have HB := n_; clear n_
  clear cbx0_0_w1 cbx0_1_w1
  have cbx0_0_w2 : w2.cell? ⟨gb0, 0, none⟩ = some (.slice A0_0 h.length c0_0) := (blk_cell F_bx0.out.b 0).trans rfl
  have cbx0_1_w2 : w2.cell? ⟨gb0, 1, none⟩ = some (.slice A0_1 l.length c0_1) := (blk_cell F_bx0.out.b 1).trans rfl
  clear hb
  go_wp2
  go_ret
  exact ⟨rfl, HB.out⟩
end Go.Proofs.Ythacgkafdjnppaa.WalkFnExactLoad
