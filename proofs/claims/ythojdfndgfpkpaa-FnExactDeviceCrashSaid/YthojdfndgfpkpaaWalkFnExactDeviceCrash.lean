/- The walk of the law FnExactDeviceCrash over the printed contracts. -/
import Derived.Test.YthojdfndgfpkpaaXKx
import Derived.Test.YthojdfndgfpkpaaYOpenWin
namespace Go.Proofs.Ythojdfndgfpkpaa.WalkFnExactDeviceCrash
open Go.RowKit Go.Proofs.Ythojdfndgfpkpaa Go.Proofs.Ythojdfndgfpkpaa.XK Go.Proofs.YthojdfndgfpkpaaW.PrintWords Go.Proofs.YthojdfndgfpkpaaW.PrintLast Go.Proofs.YthojdfndgfpkpaaW.PrintMore
set_option linter.unusedVariables false
set_option linter.unusedSimpArgs false
theorem heap_alloc (w : World) (o : Obj) : (w.alloc o).heap[w.heap.size]? = some o := Array.getElem?_push_size
structure Bx (w : World) (lo hi gb : Nat) (cs : Array Value) (t : Nat) : Prop where
  b : w.heap[gb]? = some (.cells cs t (0, 0))
  l : lo ≤ gb
  u : gb < hi
  le : hi ≤ w.heap.size
theorem Bx.below {w w1 : World} {lo hi gb t : Nat} {cs : Array Value} (h : Bx w lo hi gb cs t) (hb : Below w.heap.size w w1) : Bx w1 lo hi gb cs t := ⟨by obtain ⟨_, _, _, _, q⟩ := hb; rw [q gb (Nat.lt_of_lt_of_le h.u h.le)]; exact h.b, h.l, h.u, Nat.le_trans h.le hb.size⟩
theorem Bx.kept {w w1 : World} {lo hi lo2 hi2 gb t : Nat} {cs : Array Value} (h : Bx w lo hi gb cs t) {P : Nat → Prop} (hk : Kept w w1 P) (hP : ∀ k, P k → OpenWin.win lo2 hi2 k) (hd : hi ≤ lo2 ∨ hi2 ≤ lo) : Bx w1 lo hi gb cs t :=
  ⟨by rw [hk.2 gb (Nat.lt_of_lt_of_le h.u h.le) (fun hp => by have := hP _ hp; have := h.l; have := h.u; unfold OpenWin.win at *; omega)]; exact h.b, h.l, h.u, Nat.le_trans h.le hk.1⟩

set_option maxHeartbeats 16000000 in
set_option maxRecDepth 100000 in
theorem walk (h : List Int) (l : List S114) (b : List Bool) (ls : List S116) (R : List Int) (cd z m1 m2 m3 : Int) (G L1 : List Int) (ls1 ws gs : List S116) (b1 : List Bool) (k0 k1 k2 k3 k4 k5 k6 k7 k8 k9 k10 k11 : Nat) (hn : b.length ≤ 1048576) (h0 : laws_szDevice.f k0 h l 1048576 = some z) (h1 : laws_toDevice.f k1 h l = some (h, ls)) (h2 : spec_DeviceCrash.f k2 h ls b = some (R, ws, cd)) (h3 : impl_DeviceCrash.f k3 h ls b = some (R, ws, cd)) (h4 : laws_eqDevice.f k4 R ws R ws = some true) (h5 : laws_eqDevice.f k5 h ls h ls = some true) (h6 : laws_markDevice.f k6 h ls 1 = some (m1, L1, ls1)) (h7 : laws_markBoolS.f k7 b m1 = some (m2, b1)) (h8 : laws_markDevice.f k8 R ws 1 = some (m3, G, gs)) (h9 : laws_heldDevice.f k9 G gs 1 = some m3) (h10 : laws_toBoolS.f k10 b = some b) (h11 : laws_eqBoolS.f k11 b b = some true) (hlen : G.length = R.length) (hlen2 : gs.length = ws.length) (q0 : 0 ≤ z) (q2 : 0 ≤ m2) (q3 : 0 ≤ m3) (A0_0 : Option Addr) (c0_0 : Nat) (A0_1 : Option Addr) (c0_1 : Nat) (A1 : Option Addr) (c1 : Nat) (w : World) (hr0_0 : Kd.C (Kd.int .u8) w A0_0 h.length h) (hc0_0 : h.length ≤ c0_0) (hr0_1 : Kd.C k114 w A0_1 l.length l) (hc0_1 : l.length ≤ c0_1) (hr1 : Kd.C Kd.bool w A1 b.length b) (hc1 : b.length ≤ c1) :
    Calls Try.prog 6 #[.agg #[.slice A0_0 h.length c0_0, .slice A0_1 l.length c0_1], .slice A1 b.length c1] w fun e w' => e = .returned (.bool true) ∧ Below w.heap.size w w' := by
  have H0 := Aside0.mk h0
  have H1 := Aside0.mk h1
  have H2 := Aside0.mk h2
  have H3 := Aside0.mk h3
  have H4 := Aside0.mk h4
  have H5 := Aside0.mk h5
  have H6 := Aside0.mk h6
  have H7 := Aside0.mk h7
  have H8 := Aside0.mk h8
  have H9 := Aside0.mk h9
  have H10 := Aside0.mk h10
  have H11 := Aside0.mk h11
  have HR0_0 := Aside0.mk hr0_0
  have HC0_0 := Aside0.mk hc0_0
  have HR0_1 := Aside0.mk hr0_1
  have HC0_1 := Aside0.mk hc0_1
  have HB := Aside0.mk (Below.refl w.heap.size w)
  have HR1 := Aside0.mk hr1
  have HC1 := Aside0.mk hc1
  clear hr1 hc1
  have t4 : decide ((b.length : Int) > 1048576) = false := decide_eq_false (by omega)
  have t4b : decide ((1048576 : Int) < (b.length : Int)) = false := decide_eq_false (by omega)
  have HLEN := Aside0.mk hlen
  have HLEN2 := Aside0.mk hlen2
  have t0 : decide (z < 0) = false := decide_eq_false (by omega)
  have t2 : decide (m2 < 0) = false := decide_eq_false (by omega)
  have t3 : decide (m3 < 0) = false := decide_eq_false (by omega)
  clear h0 h1 h2 h3 h4 h5 h6 h7 h8 h9 h10 h11 hr0_0 hc0_0 hr0_1 hc0_1 hlen hlen2 q0 q2 q3 hn
  go_enter Try.func6, Try.ntmps6
  go_wp2_with ((with_reducible refine gate_dst (N := 2) rfl ?_); refine box_event ?hg (N := 2) ?hd (cs := #[.slice A0_0 h.length c0_0, .slice A0_1 l.length c0_1]) (t := 45) ?hr ?_; (case hd => rfl); (case hg => rfl); (case hr => first | (go_simp; done) | (go_simp; rfl)); intro gb0 hg w1 hbox hb; have F_bx0 := Aside0.mk (Bx.mk (lo := w.heap.size) (hi := w1.heap.size) hbox (by rw [hg]; exact Nat.le_refl _) (Array.getElem?_eq_some_iff.1 hbox).1 (Nat.le_refl _)); have Z1 := Aside0.mk (hb.size); have n_ := Aside0.mk (below_step HB.out hb); clear HB; have HB := n_; clear n_; clear hb hbox hg; have cbx0_0_w1 : w1.cell? ⟨gb0, 0, none⟩ = some (.slice A0_0 h.length c0_0) := (blk_cell F_bx0.out.b 0).trans rfl; have cbx0_1_w1 : w1.cell? ⟨gb0, 1, none⟩ = some (.slice A0_1 l.length c0_1) := (blk_cell F_bx0.out.b 1).trans rfl)
  go_wp2_with fail
  refine (laws_szDevice.calls _ _ _ _ _ _ _ _ _ _ (Kd.C_below HR0_0.out HB.out) HC0_0.out (Kd.C_below HR0_1.out HB.out) HC0_1.out H0.out).mono ?_
  rintro e_ w2 ⟨rfl, h_⟩; have hb := h_; clear h_
  have n_ := Aside0.mk (F_bx0.out.below hb); clear F_bx0; have F_bx0 := n_; clear n_
  have Z2 := Aside0.mk (hb.size)
  have n_ := Aside0.mk (below_step HB.out hb); clear HB; have HB := n_; clear n_
  clear cbx0_0_w1 cbx0_1_w1
  have cbx0_0_w2 : w2.cell? ⟨gb0, 0, none⟩ = some (.slice A0_0 h.length c0_0) := (blk_cell F_bx0.out.b 0).trans rfl
  have cbx0_1_w2 : w2.cell? ⟨gb0, 1, none⟩ = some (.slice A0_1 l.length c0_1) := (blk_cell F_bx0.out.b 1).trans rfl
  clear hb
  go_wp2_with fail
  refine (laws_toDevice.calls _ _ _ _ _ _ _ _ _ _ (Kd.C_below HR0_0.out HB.out) HC0_0.out (Kd.C_below HR0_1.out HB.out) HC0_1.out H1.out).mono ?_
  rintro e_ w3 ⟨v0_a, v1_a, rfl, h0_, h1_, hb⟩
  have m_a := Aside0.mk (laws_markDevice.DW.of (B := w.heap.size) h0_ h1_ HB.out.size); clear h0_ h1_
  have n_ := Aside0.mk (F_bx0.out.below hb); clear F_bx0; have F_bx0 := n_; clear n_
  have Z3 := Aside0.mk (hb.size)
  have n_ := Aside0.mk (below_step HB.out hb); clear HB; have HB := n_; clear n_
  clear cbx0_0_w2 cbx0_1_w2
  have cbx0_0_w3 : w3.cell? ⟨gb0, 0, none⟩ = some (.slice A0_0 h.length c0_0) := (blk_cell F_bx0.out.b 0).trans rfl
  have cbx0_1_w3 : w3.cell? ⟨gb0, 1, none⟩ = some (.slice A0_1 l.length c0_1) := (blk_cell F_bx0.out.b 1).trans rfl
  clear hb
  obtain ⟨A0_a, c0_a, e_⟩ := Kd.R_slice m_a.out.r; subst e_; obtain ⟨A1_a, c1_a, e_⟩ := Kd.S_slice m_a.out.s; subst e_; have F_a := m_a; clear m_a
  go_wp2_with fail
  refine (laws_toBoolS.calls _ _ _ _ _ _ (Kd.C_below HR1.out HB.out) HC1.out H10.out).mono ?_
  rintro e_ w4 ⟨v_ab, rfl, h_ab, hb⟩
  have m_ab := Aside0.mk (OpenWin.RW.of (B := w.heap.size) (Kd.R_mono h_ab (fun _ _ => trivial)) HB.out.size)
  clear h_ab
  have n_ := Aside0.mk (F_bx0.out.below hb); clear F_bx0; have F_bx0 := n_; clear n_
  have n_ := Aside0.mk (F_a.out.below hb); clear F_a; have F_a := n_; clear n_
  have Z4 := Aside0.mk (hb.size)
  have n_ := Aside0.mk (below_step HB.out hb); clear HB; have HB := n_; clear n_
  clear cbx0_0_w3 cbx0_1_w3
  have cbx0_0_w4 : w4.cell? ⟨gb0, 0, none⟩ = some (.slice A0_0 h.length c0_0) := (blk_cell F_bx0.out.b 0).trans rfl
  have cbx0_1_w4 : w4.cell? ⟨gb0, 1, none⟩ = some (.slice A0_1 l.length c0_1) := (blk_cell F_bx0.out.b 1).trans rfl
  clear hb
  obtain ⟨A_ab, c_ab, e_ab, _, _⟩ := m_ab.out.reads; subst e_ab; have F_ab := m_ab; clear m_ab
  go_wp2_with fail
  refine (spec_DeviceCrash.calls _ _ _ _ _ _ _ _ _ _ _ _ _ _ (Kd.R_reads' F_a.out.r).2.2 (Kd.R_reads' F_a.out.r).2.1 (Kd.S_reads' F_a.out.s).2.2 (Kd.S_reads' F_a.out.s).2.1 (Kd.R_reads' F_ab.out.r).2.2 (Kd.R_reads' F_ab.out.r).2.1 H2.out).mono ?_
  rintro e_ w5 ⟨v0_w0, v1_w0, rfl, h0_, h1_, hb⟩
  have m_w0 := Aside0.mk (laws_markDevice.DW.of (B := w.heap.size) h0_ h1_ HB.out.size); clear h0_ h1_
  have n_ := Aside0.mk (F_bx0.out.below hb); clear F_bx0; have F_bx0 := n_; clear n_
  have n_ := Aside0.mk (F_a.out.below hb); clear F_a; have F_a := n_; clear n_
  have n_ := Aside0.mk (F_ab.out.below hb); clear F_ab; have F_ab := n_; clear n_
  have Z5 := Aside0.mk (hb.size)
  have n_ := Aside0.mk (below_step HB.out hb); clear HB; have HB := n_; clear n_
  clear cbx0_0_w4 cbx0_1_w4
  have cbx0_0_w5 : w5.cell? ⟨gb0, 0, none⟩ = some (.slice A0_0 h.length c0_0) := (blk_cell F_bx0.out.b 0).trans rfl
  have cbx0_1_w5 : w5.cell? ⟨gb0, 1, none⟩ = some (.slice A0_1 l.length c0_1) := (blk_cell F_bx0.out.b 1).trans rfl
  clear hb
  obtain ⟨A0_w0, c0_w0, e_⟩ := Kd.R_slice m_w0.out.r; subst e_; obtain ⟨A1_w0, c1_w0, e_⟩ := Kd.S_slice m_w0.out.s; subst e_; have F_w0 := m_w0; clear m_w0
  clear F_a
  clear F_ab
  have cabx0_0 : ∀ o_, (w5.alloc o_).cell? ⟨gb0, 0, none⟩ = some (.slice A0_0 h.length c0_0) := fun o_ => (blk_cell (blk_alloc F_bx0.out.b o_) 0).trans rfl
  have cabx0_1 : ∀ o_, (w5.alloc o_).cell? ⟨gb0, 1, none⟩ = some (.slice A0_1 l.length c0_1) := fun o_ => (blk_cell (blk_alloc F_bx0.out.b o_) 1).trans rfl
  go_wp2_with fail
  clear cabx0_0 cabx0_1
  obtain ⟨w6, hnw⟩ : ∃ W_, W_ = w5.alloc (.cells #[.slice A0_w0 R.length c0_w0, .slice A1_w0 ws.length c1_w0] 50) := ⟨_, rfl⟩
  obtain ⟨gb1, hg⟩ : ∃ g_, g_ = w5.heap.size := ⟨_, rfl⟩
  rw [← hnw, ← hg]
  have hbox : w6.heap[gb1]? = some (.cells #[.slice A0_w0 R.length c0_w0, .slice A1_w0 ws.length c1_w0] 50 (0, 0)) := by rw [hnw, hg]; exact heap_alloc _ _
  have hb : Below w5.heap.size w5 w6 := by rw [hnw]; exact below_alloc (Below.refl _ _) _
  have F_bx1 := Aside0.mk (Bx.mk (lo := w5.heap.size) (hi := w6.heap.size) hbox (by rw [hg]; exact Nat.le_refl _) (Array.getElem?_eq_some_iff.1 hbox).1 (Nat.le_refl _))
  clear hnw
  have n_ := Aside0.mk (F_bx0.out.below hb); clear F_bx0; have F_bx0 := n_; clear n_
  have n_ := Aside0.mk (F_w0.out.below hb); clear F_w0; have F_w0 := n_; clear n_
  have Z6 := Aside0.mk (hb.size)
  have n_ := Aside0.mk (below_step HB.out hb); clear HB; have HB := n_; clear n_
  clear hb hbox hg
  clear cbx0_0_w5 cbx0_1_w5
  have cbx0_0_w6 : w6.cell? ⟨gb0, 0, none⟩ = some (.slice A0_0 h.length c0_0) := (blk_cell F_bx0.out.b 0).trans rfl
  have cbx0_1_w6 : w6.cell? ⟨gb0, 1, none⟩ = some (.slice A0_1 l.length c0_1) := (blk_cell F_bx0.out.b 1).trans rfl
  have cbx1_0_w6 : w6.cell? ⟨gb1, 0, none⟩ = some (.slice A0_w0 R.length c0_w0) := (blk_cell F_bx1.out.b 0).trans rfl
  have cbx1_1_w6 : w6.cell? ⟨gb1, 1, none⟩ = some (.slice A1_w0 ws.length c1_w0) := (blk_cell F_bx1.out.b 1).trans rfl
  go_wp2_with fail
  refine (laws_toDevice.calls _ _ _ _ _ _ _ _ _ _ (Kd.C_below HR0_0.out HB.out) HC0_0.out (Kd.C_below HR0_1.out HB.out) HC0_1.out H1.out).mono ?_
  rintro e_ w7 ⟨v0_x0, v1_x0, rfl, h0_, h1_, hb⟩
  have m_x0 := Aside0.mk (laws_markDevice.DW.of (B := w.heap.size) h0_ h1_ HB.out.size); clear h0_ h1_
  have n_ := Aside0.mk (F_bx0.out.below hb); clear F_bx0; have F_bx0 := n_; clear n_
  have n_ := Aside0.mk (F_w0.out.below hb); clear F_w0; have F_w0 := n_; clear n_
  have n_ := Aside0.mk (F_bx1.out.below hb); clear F_bx1; have F_bx1 := n_; clear n_
  have Z7 := Aside0.mk (hb.size)
  have n_ := Aside0.mk (below_step HB.out hb); clear HB; have HB := n_; clear n_
  clear cbx0_0_w6 cbx0_1_w6 cbx1_0_w6 cbx1_1_w6
  have cbx0_0_w7 : w7.cell? ⟨gb0, 0, none⟩ = some (.slice A0_0 h.length c0_0) := (blk_cell F_bx0.out.b 0).trans rfl
  have cbx0_1_w7 : w7.cell? ⟨gb0, 1, none⟩ = some (.slice A0_1 l.length c0_1) := (blk_cell F_bx0.out.b 1).trans rfl
  have cbx1_0_w7 : w7.cell? ⟨gb1, 0, none⟩ = some (.slice A0_w0 R.length c0_w0) := (blk_cell F_bx1.out.b 0).trans rfl
  have cbx1_1_w7 : w7.cell? ⟨gb1, 1, none⟩ = some (.slice A1_w0 ws.length c1_w0) := (blk_cell F_bx1.out.b 1).trans rfl
  clear hb
  obtain ⟨A0_x0, c0_x0, e_⟩ := Kd.R_slice m_x0.out.r; subst e_; obtain ⟨A1_x0, c1_x0, e_⟩ := Kd.S_slice m_x0.out.s; subst e_; have F_x0 := m_x0; clear m_x0
  have cabx0_0 : ∀ o_, (w7.alloc o_).cell? ⟨gb0, 0, none⟩ = some (.slice A0_0 h.length c0_0) := fun o_ => (blk_cell (blk_alloc F_bx0.out.b o_) 0).trans rfl
  have cabx0_1 : ∀ o_, (w7.alloc o_).cell? ⟨gb0, 1, none⟩ = some (.slice A0_1 l.length c0_1) := fun o_ => (blk_cell (blk_alloc F_bx0.out.b o_) 1).trans rfl
  have cabx1_0 : ∀ o_, (w7.alloc o_).cell? ⟨gb1, 0, none⟩ = some (.slice A0_w0 R.length c0_w0) := fun o_ => (blk_cell (blk_alloc F_bx1.out.b o_) 0).trans rfl
  have cabx1_1 : ∀ o_, (w7.alloc o_).cell? ⟨gb1, 1, none⟩ = some (.slice A1_w0 ws.length c1_w0) := fun o_ => (blk_cell (blk_alloc F_bx1.out.b o_) 1).trans rfl
  go_wp2_with fail
  clear cabx0_0 cabx0_1 cabx1_0 cabx1_1
  obtain ⟨w8, hnw⟩ : ∃ W_, W_ = w7.alloc (.cells #[.slice A0_x0 h.length c0_x0, .slice A1_x0 ls.length c1_x0] 50) := ⟨_, rfl⟩
  obtain ⟨gb2, hg⟩ : ∃ g_, g_ = w7.heap.size := ⟨_, rfl⟩
  rw [← hnw, ← hg]
  have hbox : w8.heap[gb2]? = some (.cells #[.slice A0_x0 h.length c0_x0, .slice A1_x0 ls.length c1_x0] 50 (0, 0)) := by rw [hnw, hg]; exact heap_alloc _ _
  have hb : Below w7.heap.size w7 w8 := by rw [hnw]; exact below_alloc (Below.refl _ _) _
  have F_bx2 := Aside0.mk (Bx.mk (lo := w7.heap.size) (hi := w8.heap.size) hbox (by rw [hg]; exact Nat.le_refl _) (Array.getElem?_eq_some_iff.1 hbox).1 (Nat.le_refl _))
  clear hnw
  have n_ := Aside0.mk (F_bx0.out.below hb); clear F_bx0; have F_bx0 := n_; clear n_
  have n_ := Aside0.mk (F_w0.out.below hb); clear F_w0; have F_w0 := n_; clear n_
  have n_ := Aside0.mk (F_bx1.out.below hb); clear F_bx1; have F_bx1 := n_; clear n_
  have n_ := Aside0.mk (F_x0.out.below hb); clear F_x0; have F_x0 := n_; clear n_
  have Z8 := Aside0.mk (hb.size)
  have n_ := Aside0.mk (below_step HB.out hb); clear HB; have HB := n_; clear n_
  clear hb hbox hg
  clear cbx0_0_w7 cbx0_1_w7 cbx1_0_w7 cbx1_1_w7
  have cbx0_0_w8 : w8.cell? ⟨gb0, 0, none⟩ = some (.slice A0_0 h.length c0_0) := (blk_cell F_bx0.out.b 0).trans rfl
  have cbx0_1_w8 : w8.cell? ⟨gb0, 1, none⟩ = some (.slice A0_1 l.length c0_1) := (blk_cell F_bx0.out.b 1).trans rfl
  have cbx1_0_w8 : w8.cell? ⟨gb1, 0, none⟩ = some (.slice A0_w0 R.length c0_w0) := (blk_cell F_bx1.out.b 0).trans rfl
  have cbx1_1_w8 : w8.cell? ⟨gb1, 1, none⟩ = some (.slice A1_w0 ws.length c1_w0) := (blk_cell F_bx1.out.b 1).trans rfl
  have cbx2_0_w8 : w8.cell? ⟨gb2, 0, none⟩ = some (.slice A0_x0 h.length c0_x0) := (blk_cell F_bx2.out.b 0).trans rfl
  have cbx2_1_w8 : w8.cell? ⟨gb2, 1, none⟩ = some (.slice A1_x0 ls.length c1_x0) := (blk_cell F_bx2.out.b 1).trans rfl
  go_wp2_with fail
  refine (laws_toBoolS.calls _ _ _ _ _ _ (Kd.C_below HR1.out HB.out) HC1.out H10.out).mono ?_
  rintro e_ w9 ⟨v_x1, rfl, h_x1, hb⟩
  have m_x1 := Aside0.mk (OpenWin.RW.of (B := w.heap.size) (Kd.R_mono h_x1 (fun _ _ => trivial)) HB.out.size)
  clear h_x1
  have n_ := Aside0.mk (F_bx0.out.below hb); clear F_bx0; have F_bx0 := n_; clear n_
  have n_ := Aside0.mk (F_w0.out.below hb); clear F_w0; have F_w0 := n_; clear n_
  have n_ := Aside0.mk (F_bx1.out.below hb); clear F_bx1; have F_bx1 := n_; clear n_
  have n_ := Aside0.mk (F_x0.out.below hb); clear F_x0; have F_x0 := n_; clear n_
  have n_ := Aside0.mk (F_bx2.out.below hb); clear F_bx2; have F_bx2 := n_; clear n_
  have Z9 := Aside0.mk (hb.size)
  have n_ := Aside0.mk (below_step HB.out hb); clear HB; have HB := n_; clear n_
  clear cbx0_0_w8 cbx0_1_w8 cbx1_0_w8 cbx1_1_w8 cbx2_0_w8 cbx2_1_w8
  have cbx0_0_w9 : w9.cell? ⟨gb0, 0, none⟩ = some (.slice A0_0 h.length c0_0) := (blk_cell F_bx0.out.b 0).trans rfl
  have cbx0_1_w9 : w9.cell? ⟨gb0, 1, none⟩ = some (.slice A0_1 l.length c0_1) := (blk_cell F_bx0.out.b 1).trans rfl
  have cbx1_0_w9 : w9.cell? ⟨gb1, 0, none⟩ = some (.slice A0_w0 R.length c0_w0) := (blk_cell F_bx1.out.b 0).trans rfl
  have cbx1_1_w9 : w9.cell? ⟨gb1, 1, none⟩ = some (.slice A1_w0 ws.length c1_w0) := (blk_cell F_bx1.out.b 1).trans rfl
  have cbx2_0_w9 : w9.cell? ⟨gb2, 0, none⟩ = some (.slice A0_x0 h.length c0_x0) := (blk_cell F_bx2.out.b 0).trans rfl
  have cbx2_1_w9 : w9.cell? ⟨gb2, 1, none⟩ = some (.slice A1_x0 ls.length c1_x0) := (blk_cell F_bx2.out.b 1).trans rfl
  clear hb
  obtain ⟨A_x1, c_x1, e_x1, _, _⟩ := m_x1.out.reads; subst e_x1; have F_x1 := m_x1; clear m_x1
  go_wp2_with fail
  refine (impl_DeviceCrash.calls _ _ _ _ _ _ _ _ _ _ _ _ _ _ (Kd.R_reads' F_x0.out.r).2.2 (Kd.R_reads' F_x0.out.r).2.1 (Kd.S_reads' F_x0.out.s).2.2 (Kd.S_reads' F_x0.out.s).2.1 (Kd.R_reads' F_x1.out.r).2.2 (Kd.R_reads' F_x1.out.r).2.1 H3.out).mono ?_
  rintro e_ w10 ⟨v0_g0, v1_g0, rfl, h0_, h1_, hb⟩
  have m_g0 := Aside0.mk (laws_markDevice.DW.of (B := w.heap.size) h0_ h1_ HB.out.size); clear h0_ h1_
  have n_ := Aside0.mk (F_bx0.out.below hb); clear F_bx0; have F_bx0 := n_; clear n_
  have n_ := Aside0.mk (F_w0.out.below hb); clear F_w0; have F_w0 := n_; clear n_
  have n_ := Aside0.mk (F_bx1.out.below hb); clear F_bx1; have F_bx1 := n_; clear n_
  have n_ := Aside0.mk (F_x0.out.below hb); clear F_x0; have F_x0 := n_; clear n_
  have n_ := Aside0.mk (F_bx2.out.below hb); clear F_bx2; have F_bx2 := n_; clear n_
  have n_ := Aside0.mk (F_x1.out.below hb); clear F_x1; have F_x1 := n_; clear n_
  have Z10 := Aside0.mk (hb.size)
  have n_ := Aside0.mk (below_step HB.out hb); clear HB; have HB := n_; clear n_
  clear cbx0_0_w9 cbx0_1_w9 cbx1_0_w9 cbx1_1_w9 cbx2_0_w9 cbx2_1_w9
  have cbx0_0_w10 : w10.cell? ⟨gb0, 0, none⟩ = some (.slice A0_0 h.length c0_0) := (blk_cell F_bx0.out.b 0).trans rfl
  have cbx0_1_w10 : w10.cell? ⟨gb0, 1, none⟩ = some (.slice A0_1 l.length c0_1) := (blk_cell F_bx0.out.b 1).trans rfl
  have cbx1_0_w10 : w10.cell? ⟨gb1, 0, none⟩ = some (.slice A0_w0 R.length c0_w0) := (blk_cell F_bx1.out.b 0).trans rfl
  have cbx1_1_w10 : w10.cell? ⟨gb1, 1, none⟩ = some (.slice A1_w0 ws.length c1_w0) := (blk_cell F_bx1.out.b 1).trans rfl
  have cbx2_0_w10 : w10.cell? ⟨gb2, 0, none⟩ = some (.slice A0_x0 h.length c0_x0) := (blk_cell F_bx2.out.b 0).trans rfl
  have cbx2_1_w10 : w10.cell? ⟨gb2, 1, none⟩ = some (.slice A1_x0 ls.length c1_x0) := (blk_cell F_bx2.out.b 1).trans rfl
  clear hb
  obtain ⟨A0_g0, c0_g0, e_⟩ := Kd.R_slice m_g0.out.r; subst e_; obtain ⟨A1_g0, c1_g0, e_⟩ := Kd.S_slice m_g0.out.s; subst e_; have F_g0 := m_g0; clear m_g0
  have cabx0_0 : ∀ o_, (w10.alloc o_).cell? ⟨gb0, 0, none⟩ = some (.slice A0_0 h.length c0_0) := fun o_ => (blk_cell (blk_alloc F_bx0.out.b o_) 0).trans rfl
  have cabx0_1 : ∀ o_, (w10.alloc o_).cell? ⟨gb0, 1, none⟩ = some (.slice A0_1 l.length c0_1) := fun o_ => (blk_cell (blk_alloc F_bx0.out.b o_) 1).trans rfl
  have cabx1_0 : ∀ o_, (w10.alloc o_).cell? ⟨gb1, 0, none⟩ = some (.slice A0_w0 R.length c0_w0) := fun o_ => (blk_cell (blk_alloc F_bx1.out.b o_) 0).trans rfl
  have cabx1_1 : ∀ o_, (w10.alloc o_).cell? ⟨gb1, 1, none⟩ = some (.slice A1_w0 ws.length c1_w0) := fun o_ => (blk_cell (blk_alloc F_bx1.out.b o_) 1).trans rfl
  have cabx2_0 : ∀ o_, (w10.alloc o_).cell? ⟨gb2, 0, none⟩ = some (.slice A0_x0 h.length c0_x0) := fun o_ => (blk_cell (blk_alloc F_bx2.out.b o_) 0).trans rfl
  have cabx2_1 : ∀ o_, (w10.alloc o_).cell? ⟨gb2, 1, none⟩ = some (.slice A1_x0 ls.length c1_x0) := fun o_ => (blk_cell (blk_alloc F_bx2.out.b o_) 1).trans rfl
  go_wp2_with fail
  clear cabx0_0 cabx0_1 cabx1_0 cabx1_1 cabx2_0 cabx2_1
  obtain ⟨w11, hnw⟩ : ∃ W_, W_ = w10.alloc (.cells #[.slice A0_g0 R.length c0_g0, .slice A1_g0 ws.length c1_g0] 50) := ⟨_, rfl⟩
  obtain ⟨gb3, hg⟩ : ∃ g_, g_ = w10.heap.size := ⟨_, rfl⟩
  rw [← hnw, ← hg]
  have hbox : w11.heap[gb3]? = some (.cells #[.slice A0_g0 R.length c0_g0, .slice A1_g0 ws.length c1_g0] 50 (0, 0)) := by rw [hnw, hg]; exact heap_alloc _ _
  have hb : Below w10.heap.size w10 w11 := by rw [hnw]; exact below_alloc (Below.refl _ _) _
  have F_bx3 := Aside0.mk (Bx.mk (lo := w10.heap.size) (hi := w11.heap.size) hbox (by rw [hg]; exact Nat.le_refl _) (Array.getElem?_eq_some_iff.1 hbox).1 (Nat.le_refl _))
  clear hnw
  have n_ := Aside0.mk (F_bx0.out.below hb); clear F_bx0; have F_bx0 := n_; clear n_
  have n_ := Aside0.mk (F_w0.out.below hb); clear F_w0; have F_w0 := n_; clear n_
  have n_ := Aside0.mk (F_bx1.out.below hb); clear F_bx1; have F_bx1 := n_; clear n_
  have n_ := Aside0.mk (F_x0.out.below hb); clear F_x0; have F_x0 := n_; clear n_
  have n_ := Aside0.mk (F_bx2.out.below hb); clear F_bx2; have F_bx2 := n_; clear n_
  have n_ := Aside0.mk (F_x1.out.below hb); clear F_x1; have F_x1 := n_; clear n_
  have n_ := Aside0.mk (F_g0.out.below hb); clear F_g0; have F_g0 := n_; clear n_
  have Z11 := Aside0.mk (hb.size)
  have n_ := Aside0.mk (below_step HB.out hb); clear HB; have HB := n_; clear n_
  clear hb hbox hg
  clear cbx0_0_w10 cbx0_1_w10 cbx1_0_w10 cbx1_1_w10 cbx2_0_w10 cbx2_1_w10
  have cbx0_0_w11 : w11.cell? ⟨gb0, 0, none⟩ = some (.slice A0_0 h.length c0_0) := (blk_cell F_bx0.out.b 0).trans rfl
  have cbx0_1_w11 : w11.cell? ⟨gb0, 1, none⟩ = some (.slice A0_1 l.length c0_1) := (blk_cell F_bx0.out.b 1).trans rfl
  have cbx1_0_w11 : w11.cell? ⟨gb1, 0, none⟩ = some (.slice A0_w0 R.length c0_w0) := (blk_cell F_bx1.out.b 0).trans rfl
  have cbx1_1_w11 : w11.cell? ⟨gb1, 1, none⟩ = some (.slice A1_w0 ws.length c1_w0) := (blk_cell F_bx1.out.b 1).trans rfl
  have cbx2_0_w11 : w11.cell? ⟨gb2, 0, none⟩ = some (.slice A0_x0 h.length c0_x0) := (blk_cell F_bx2.out.b 0).trans rfl
  have cbx2_1_w11 : w11.cell? ⟨gb2, 1, none⟩ = some (.slice A1_x0 ls.length c1_x0) := (blk_cell F_bx2.out.b 1).trans rfl
  have cbx3_0_w11 : w11.cell? ⟨gb3, 0, none⟩ = some (.slice A0_g0 R.length c0_g0) := (blk_cell F_bx3.out.b 0).trans rfl
  have cbx3_1_w11 : w11.cell? ⟨gb3, 1, none⟩ = some (.slice A1_g0 ws.length c1_g0) := (blk_cell F_bx3.out.b 1).trans rfl
  go_wp2_with fail
  refine (laws_eqDevice.calls _ _ _ _ _ _ _ _ _ _ _ _ _ _ _ (Kd.R_reads' F_g0.out.r).2.2 (Kd.R_reads' F_g0.out.r).2.1 (Kd.S_reads' F_g0.out.s).2.2 (Kd.S_reads' F_g0.out.s).2.1 (Kd.R_reads' F_w0.out.r).2.2 (Kd.R_reads' F_w0.out.r).2.1 (Kd.S_reads' F_w0.out.s).2.2 (Kd.S_reads' F_w0.out.s).2.1 H4.out).mono ?_
  rintro e_ w12 ⟨rfl, h_⟩; have hb := h_; clear h_
  have n_ := Aside0.mk (F_bx0.out.below hb); clear F_bx0; have F_bx0 := n_; clear n_
  have n_ := Aside0.mk (F_w0.out.below hb); clear F_w0; have F_w0 := n_; clear n_
  have n_ := Aside0.mk (F_bx1.out.below hb); clear F_bx1; have F_bx1 := n_; clear n_
  have n_ := Aside0.mk (F_x0.out.below hb); clear F_x0; have F_x0 := n_; clear n_
  have n_ := Aside0.mk (F_bx2.out.below hb); clear F_bx2; have F_bx2 := n_; clear n_
  have n_ := Aside0.mk (F_x1.out.below hb); clear F_x1; have F_x1 := n_; clear n_
  have n_ := Aside0.mk (F_g0.out.below hb); clear F_g0; have F_g0 := n_; clear n_
  have n_ := Aside0.mk (F_bx3.out.below hb); clear F_bx3; have F_bx3 := n_; clear n_
  have Z12 := Aside0.mk (hb.size)
  have n_ := Aside0.mk (below_step HB.out hb); clear HB; have HB := n_; clear n_
  clear cbx0_0_w11 cbx0_1_w11 cbx1_0_w11 cbx1_1_w11 cbx2_0_w11 cbx2_1_w11 cbx3_0_w11 cbx3_1_w11
  have cbx0_0_w12 : w12.cell? ⟨gb0, 0, none⟩ = some (.slice A0_0 h.length c0_0) := (blk_cell F_bx0.out.b 0).trans rfl
  have cbx0_1_w12 : w12.cell? ⟨gb0, 1, none⟩ = some (.slice A0_1 l.length c0_1) := (blk_cell F_bx0.out.b 1).trans rfl
  have cbx1_0_w12 : w12.cell? ⟨gb1, 0, none⟩ = some (.slice A0_w0 R.length c0_w0) := (blk_cell F_bx1.out.b 0).trans rfl
  have cbx1_1_w12 : w12.cell? ⟨gb1, 1, none⟩ = some (.slice A1_w0 ws.length c1_w0) := (blk_cell F_bx1.out.b 1).trans rfl
  have cbx2_0_w12 : w12.cell? ⟨gb2, 0, none⟩ = some (.slice A0_x0 h.length c0_x0) := (blk_cell F_bx2.out.b 0).trans rfl
  have cbx2_1_w12 : w12.cell? ⟨gb2, 1, none⟩ = some (.slice A1_x0 ls.length c1_x0) := (blk_cell F_bx2.out.b 1).trans rfl
  have cbx3_0_w12 : w12.cell? ⟨gb3, 0, none⟩ = some (.slice A0_g0 R.length c0_g0) := (blk_cell F_bx3.out.b 0).trans rfl
  have cbx3_1_w12 : w12.cell? ⟨gb3, 1, none⟩ = some (.slice A1_g0 ws.length c1_g0) := (blk_cell F_bx3.out.b 1).trans rfl
  clear hb
  go_wp2_with fail
  refine start_ (n := 5) (S := fun w_ => w_.cell? ⟨gb0, 0, none⟩ = some (.slice A0_0 h.length c0_0) ∧ w_.cell? ⟨gb0, 1, none⟩ = some (.slice A0_1 l.length c0_1) ∧ w_.cell? ⟨gb1, 0, none⟩ = some (.slice A0_w0 R.length c0_w0) ∧ w_.cell? ⟨gb1, 1, none⟩ = some (.slice A1_w0 ws.length c1_w0) ∧ w_.cell? ⟨gb2, 0, none⟩ = some (.slice A0_x0 h.length c0_x0) ∧ w_.cell? ⟨gb2, 1, none⟩ = some (.slice A1_x0 ls.length c1_x0) ∧ w_.cell? ⟨gb3, 0, none⟩ = some (.slice A0_g0 R.length c0_g0) ∧ w_.cell? ⟨gb3, 1, none⟩ = some (.slice A1_g0 ws.length c1_g0)) (ds := []) #[false, false, false, false, false] (by kernel_rfl) rfl rfl ⟨cbx0_0_w12, cbx0_1_w12, cbx1_0_w12, cbx1_1_w12, cbx2_0_w12, cbx2_1_w12, cbx3_0_w12, cbx3_1_w12⟩ (fun hHeld => ?_)
  have hb : Below w12.heap.size w12 w12.drew := below_drew1 (Below.refl _ _)
  generalize w12.drew = w13 at hb hHeld ⊢
  have n_ := Aside0.mk (F_bx0.out.below hb); clear F_bx0; have F_bx0 := n_; clear n_
  have n_ := Aside0.mk (F_w0.out.below hb); clear F_w0; have F_w0 := n_; clear n_
  have n_ := Aside0.mk (F_bx1.out.below hb); clear F_bx1; have F_bx1 := n_; clear n_
  have n_ := Aside0.mk (F_x0.out.below hb); clear F_x0; have F_x0 := n_; clear n_
  have n_ := Aside0.mk (F_bx2.out.below hb); clear F_bx2; have F_bx2 := n_; clear n_
  have n_ := Aside0.mk (F_x1.out.below hb); clear F_x1; have F_x1 := n_; clear n_
  have n_ := Aside0.mk (F_g0.out.below hb); clear F_g0; have F_g0 := n_; clear n_
  have n_ := Aside0.mk (F_bx3.out.below hb); clear F_bx3; have F_bx3 := n_; clear n_
  have Z13 := Aside0.mk (hb.size)
  have n_ := Aside0.mk (below_step HB.out hb); clear HB; have HB := n_; clear n_
  clear cbx0_0_w12 cbx0_1_w12 cbx1_0_w12 cbx1_1_w12 cbx2_0_w12 cbx2_1_w12 cbx3_0_w12 cbx3_1_w12
  have cbx0_0_w13 : w13.cell? ⟨gb0, 0, none⟩ = some (.slice A0_0 h.length c0_0) := (blk_cell F_bx0.out.b 0).trans rfl
  have cbx0_1_w13 : w13.cell? ⟨gb0, 1, none⟩ = some (.slice A0_1 l.length c0_1) := (blk_cell F_bx0.out.b 1).trans rfl
  have cbx1_0_w13 : w13.cell? ⟨gb1, 0, none⟩ = some (.slice A0_w0 R.length c0_w0) := (blk_cell F_bx1.out.b 0).trans rfl
  have cbx1_1_w13 : w13.cell? ⟨gb1, 1, none⟩ = some (.slice A1_w0 ws.length c1_w0) := (blk_cell F_bx1.out.b 1).trans rfl
  have cbx2_0_w13 : w13.cell? ⟨gb2, 0, none⟩ = some (.slice A0_x0 h.length c0_x0) := (blk_cell F_bx2.out.b 0).trans rfl
  have cbx2_1_w13 : w13.cell? ⟨gb2, 1, none⟩ = some (.slice A1_x0 ls.length c1_x0) := (blk_cell F_bx2.out.b 1).trans rfl
  have cbx3_0_w13 : w13.cell? ⟨gb3, 0, none⟩ = some (.slice A0_g0 R.length c0_g0) := (blk_cell F_bx3.out.b 0).trans rfl
  have cbx3_1_w13 : w13.cell? ⟨gb3, 1, none⟩ = some (.slice A1_g0 ws.length c1_g0) := (blk_cell F_bx3.out.b 1).trans rfl
  clear hb
  refine take_ (i := 0) (N := some 52) (v := ?_) (a' := ?_) #[true, false, false, false, false] rfl rfl (by kernel_rfl) (fun _ _ _ h => h) (Or.inl ⟨by rfl, ?_⟩) hHeld ?_ ?_
  rotate_left
  · rintro w' ⟨s0, s1, s2, s3, s4, s5, s6, s7⟩
    go_simp
    with_reducible rfl
  rotate_left
  · simp only [Act.put, List.setIfInBounds_toArray, List.set_cons_zero, List.set_cons_succ, i64_w, i32_w]
    rfl
  refine take_ (i := 1) (N := some 53) (v := ?_) (a' := ?_) #[true, true, false, false, false] rfl rfl (by kernel_rfl) (fun _ _ _ h => h) (Or.inl ⟨by rfl, ?_⟩) hHeld ?_ ?_
  rotate_left
  · rintro w' ⟨s0, s1, s2, s3, s4, s5, s6, s7⟩
    go_simp
    with_reducible rfl
  rotate_left
  · simp only [Act.put, List.setIfInBounds_toArray, List.set_cons_zero, List.set_cons_succ, i64_w, i32_w]
    rfl
  refine one_ (i := 2) (N := some 54) #[true, true, true, false, false] rfl rfl (by kernel_rfl) (by decide) (fun K hK => ?_)
  refine goes_ Try.func28 (by kernel_rfl) rfl #[.agg #[.slice A0_0 h.length c0_0, .slice A0_1 l.length c0_1]] (by rfl) rfl rfl (by (try simp only [List.map_toArray, List.map_cons, List.map_nil]); first | done | rfl | (simp only [List.length_drop, List.length_take]; rfl)) ?_
  refine (laws_toDevice.calls _ _ _ _ _ _ _ _ _ _ (Kd.C_below HR0_0.out HB.out) HC0_0.out (Kd.C_below HR0_1.out HB.out) HC0_1.out H1.out).mono ?_
  rintro e_ w14 ⟨v0_b, v1_b, rfl, h0_, h1_, hb⟩
  refine ⟨_, rfl, ?_⟩
  have m_b := Aside0.mk (laws_markDevice.DW.of (B := w.heap.size) h0_ h1_ HB.out.size); clear h0_ h1_
  have n_ := Aside0.mk (F_bx0.out.below hb); clear F_bx0; have F_bx0 := n_; clear n_
  have n_ := Aside0.mk (F_w0.out.below hb); clear F_w0; have F_w0 := n_; clear n_
  have n_ := Aside0.mk (F_bx1.out.below hb); clear F_bx1; have F_bx1 := n_; clear n_
  have n_ := Aside0.mk (F_x0.out.below hb); clear F_x0; have F_x0 := n_; clear n_
  have n_ := Aside0.mk (F_bx2.out.below hb); clear F_bx2; have F_bx2 := n_; clear n_
  have n_ := Aside0.mk (F_x1.out.below hb); clear F_x1; have F_x1 := n_; clear n_
  have n_ := Aside0.mk (F_g0.out.below hb); clear F_g0; have F_g0 := n_; clear n_
  have n_ := Aside0.mk (F_bx3.out.below hb); clear F_bx3; have F_bx3 := n_; clear n_
  have Z14 := Aside0.mk (hb.size)
  have n_ := Aside0.mk (below_step HB.out hb); clear HB; have HB := n_; clear n_
  clear cbx0_0_w13 cbx0_1_w13 cbx1_0_w13 cbx1_1_w13 cbx2_0_w13 cbx2_1_w13 cbx3_0_w13 cbx3_1_w13
  have cbx0_0_w14 : w14.cell? ⟨gb0, 0, none⟩ = some (.slice A0_0 h.length c0_0) := (blk_cell F_bx0.out.b 0).trans rfl
  have cbx0_1_w14 : w14.cell? ⟨gb0, 1, none⟩ = some (.slice A0_1 l.length c0_1) := (blk_cell F_bx0.out.b 1).trans rfl
  have cbx1_0_w14 : w14.cell? ⟨gb1, 0, none⟩ = some (.slice A0_w0 R.length c0_w0) := (blk_cell F_bx1.out.b 0).trans rfl
  have cbx1_1_w14 : w14.cell? ⟨gb1, 1, none⟩ = some (.slice A1_w0 ws.length c1_w0) := (blk_cell F_bx1.out.b 1).trans rfl
  have cbx2_0_w14 : w14.cell? ⟨gb2, 0, none⟩ = some (.slice A0_x0 h.length c0_x0) := (blk_cell F_bx2.out.b 0).trans rfl
  have cbx2_1_w14 : w14.cell? ⟨gb2, 1, none⟩ = some (.slice A1_x0 ls.length c1_x0) := (blk_cell F_bx2.out.b 1).trans rfl
  have cbx3_0_w14 : w14.cell? ⟨gb3, 0, none⟩ = some (.slice A0_g0 R.length c0_g0) := (blk_cell F_bx3.out.b 0).trans rfl
  have cbx3_1_w14 : w14.cell? ⟨gb3, 1, none⟩ = some (.slice A1_g0 ws.length c1_g0) := (blk_cell F_bx3.out.b 1).trans rfl
  clear hb
  obtain ⟨A0_b, c0_b, e_⟩ := Kd.R_slice m_b.out.r; subst e_; obtain ⟨A1_b, c1_b, e_⟩ := Kd.S_slice m_b.out.s; subst e_; have F_b := m_b; clear m_b
  refine hK.out _ _ ⟨cbx0_0_w14, cbx0_1_w14, cbx1_0_w14, cbx1_1_w14, cbx2_0_w14, cbx2_1_w14, cbx3_0_w14, cbx3_1_w14⟩ (fun hHeld => ?_)
  clear hK K
  refine norm_ (a' := ?_) ?_ ?_
  rotate_left
  · show Act.put _ (some 54) _ = _
    simp only [Act.put, List.setIfInBounds_toArray, List.set_cons_zero, List.set_cons_succ, i64_w, i32_w]
    rfl
  refine one_ (i := 3) (N := some 55) #[true, true, true, true, false] rfl rfl (by kernel_rfl) (by decide) (fun K hK => ?_)
  refine goes_ Try.func30 (by kernel_rfl) rfl #[.agg #[.slice A0_x0 h.length c0_x0, .slice A1_x0 ls.length c1_x0], .agg #[.slice A0_b h.length c0_b, .slice A1_b ls.length c1_b]] (by rfl) rfl rfl (by (try simp only [List.map_toArray, List.map_cons, List.map_nil]); first | done | rfl | (simp only [List.length_drop, List.length_take]; rfl)) ?_
  refine (laws_eqDevice.calls _ _ _ _ _ _ _ _ _ _ _ _ _ _ _ (Kd.R_reads' F_x0.out.r).2.2 (Kd.R_reads' F_x0.out.r).2.1 (Kd.S_reads' F_x0.out.s).2.2 (Kd.S_reads' F_x0.out.s).2.1 (Kd.R_reads' F_b.out.r).2.2 (Kd.R_reads' F_b.out.r).2.1 (Kd.S_reads' F_b.out.s).2.2 (Kd.S_reads' F_b.out.s).2.1 H5.out).mono ?_
  rintro e_ w15 ⟨rfl, h_⟩; have hb := h_; clear h_
  refine ⟨_, rfl, ?_⟩
  have n_ := Aside0.mk (F_bx0.out.below hb); clear F_bx0; have F_bx0 := n_; clear n_
  have n_ := Aside0.mk (F_w0.out.below hb); clear F_w0; have F_w0 := n_; clear n_
  have n_ := Aside0.mk (F_bx1.out.below hb); clear F_bx1; have F_bx1 := n_; clear n_
  have n_ := Aside0.mk (F_x0.out.below hb); clear F_x0; have F_x0 := n_; clear n_
  have n_ := Aside0.mk (F_bx2.out.below hb); clear F_bx2; have F_bx2 := n_; clear n_
  have n_ := Aside0.mk (F_x1.out.below hb); clear F_x1; have F_x1 := n_; clear n_
  have n_ := Aside0.mk (F_g0.out.below hb); clear F_g0; have F_g0 := n_; clear n_
  have n_ := Aside0.mk (F_bx3.out.below hb); clear F_bx3; have F_bx3 := n_; clear n_
  have n_ := Aside0.mk (F_b.out.below hb); clear F_b; have F_b := n_; clear n_
  have Z15 := Aside0.mk (hb.size)
  have n_ := Aside0.mk (below_step HB.out hb); clear HB; have HB := n_; clear n_
  clear cbx0_0_w14 cbx0_1_w14 cbx1_0_w14 cbx1_1_w14 cbx2_0_w14 cbx2_1_w14 cbx3_0_w14 cbx3_1_w14
  have cbx0_0_w15 : w15.cell? ⟨gb0, 0, none⟩ = some (.slice A0_0 h.length c0_0) := (blk_cell F_bx0.out.b 0).trans rfl
  have cbx0_1_w15 : w15.cell? ⟨gb0, 1, none⟩ = some (.slice A0_1 l.length c0_1) := (blk_cell F_bx0.out.b 1).trans rfl
  have cbx1_0_w15 : w15.cell? ⟨gb1, 0, none⟩ = some (.slice A0_w0 R.length c0_w0) := (blk_cell F_bx1.out.b 0).trans rfl
  have cbx1_1_w15 : w15.cell? ⟨gb1, 1, none⟩ = some (.slice A1_w0 ws.length c1_w0) := (blk_cell F_bx1.out.b 1).trans rfl
  have cbx2_0_w15 : w15.cell? ⟨gb2, 0, none⟩ = some (.slice A0_x0 h.length c0_x0) := (blk_cell F_bx2.out.b 0).trans rfl
  have cbx2_1_w15 : w15.cell? ⟨gb2, 1, none⟩ = some (.slice A1_x0 ls.length c1_x0) := (blk_cell F_bx2.out.b 1).trans rfl
  have cbx3_0_w15 : w15.cell? ⟨gb3, 0, none⟩ = some (.slice A0_g0 R.length c0_g0) := (blk_cell F_bx3.out.b 0).trans rfl
  have cbx3_1_w15 : w15.cell? ⟨gb3, 1, none⟩ = some (.slice A1_g0 ws.length c1_g0) := (blk_cell F_bx3.out.b 1).trans rfl
  clear hb
  refine hK.out _ _ ⟨cbx0_0_w15, cbx0_1_w15, cbx1_0_w15, cbx1_1_w15, cbx2_0_w15, cbx2_1_w15, cbx3_0_w15, cbx3_1_w15⟩ (fun hHeld => ?_)
  clear hK K
  refine norm_ (a' := ?_) ?_ ?_
  rotate_left
  · show Act.put _ (some 55) _ = _
    simp only [Act.put, List.setIfInBounds_toArray, List.set_cons_zero, List.set_cons_succ, i64_w, i32_w]
    rfl
  refine pure_ (i := 4) (N := some 56) (v := ?_) (a' := ?_) #[true, true, true, true, true] rfl rfl (by kernel_rfl) (fun _ _ _ h => h) (Or.inl ⟨by rfl, ?_⟩) ?_ ?_
  rotate_left
  · intro w'
    go_simp
    with_reducible rfl
  rotate_left
  · simp only [Act.put, List.setIfInBounds_toArray, List.set_cons_zero, List.set_cons_succ, i64_w, i32_w]
    rfl
  refine done_ (by kernel_rfl) ?_
  clear F_b
  go_wp2_with fail
  refine (laws_toBoolS.calls _ _ _ _ _ _ (Kd.C_below HR1.out HB.out) HC1.out H10.out).mono ?_
  rintro e_ w16 ⟨v_y1, rfl, h_y1, hb⟩
  have m_y1 := Aside0.mk (OpenWin.RW.of (B := w.heap.size) (Kd.R_mono h_y1 (fun _ _ => trivial)) HB.out.size)
  clear h_y1
  have n_ := Aside0.mk (F_bx0.out.below hb); clear F_bx0; have F_bx0 := n_; clear n_
  have n_ := Aside0.mk (F_w0.out.below hb); clear F_w0; have F_w0 := n_; clear n_
  have n_ := Aside0.mk (F_bx1.out.below hb); clear F_bx1; have F_bx1 := n_; clear n_
  have n_ := Aside0.mk (F_x0.out.below hb); clear F_x0; have F_x0 := n_; clear n_
  have n_ := Aside0.mk (F_bx2.out.below hb); clear F_bx2; have F_bx2 := n_; clear n_
  have n_ := Aside0.mk (F_x1.out.below hb); clear F_x1; have F_x1 := n_; clear n_
  have n_ := Aside0.mk (F_g0.out.below hb); clear F_g0; have F_g0 := n_; clear n_
  have n_ := Aside0.mk (F_bx3.out.below hb); clear F_bx3; have F_bx3 := n_; clear n_
  have Z16 := Aside0.mk (hb.size)
  have n_ := Aside0.mk (below_step HB.out hb); clear HB; have HB := n_; clear n_
  clear cbx0_0_w15 cbx0_1_w15 cbx1_0_w15 cbx1_1_w15 cbx2_0_w15 cbx2_1_w15 cbx3_0_w15 cbx3_1_w15
  have cbx0_0_w16 : w16.cell? ⟨gb0, 0, none⟩ = some (.slice A0_0 h.length c0_0) := (blk_cell F_bx0.out.b 0).trans rfl
  have cbx0_1_w16 : w16.cell? ⟨gb0, 1, none⟩ = some (.slice A0_1 l.length c0_1) := (blk_cell F_bx0.out.b 1).trans rfl
  have cbx1_0_w16 : w16.cell? ⟨gb1, 0, none⟩ = some (.slice A0_w0 R.length c0_w0) := (blk_cell F_bx1.out.b 0).trans rfl
  have cbx1_1_w16 : w16.cell? ⟨gb1, 1, none⟩ = some (.slice A1_w0 ws.length c1_w0) := (blk_cell F_bx1.out.b 1).trans rfl
  have cbx2_0_w16 : w16.cell? ⟨gb2, 0, none⟩ = some (.slice A0_x0 h.length c0_x0) := (blk_cell F_bx2.out.b 0).trans rfl
  have cbx2_1_w16 : w16.cell? ⟨gb2, 1, none⟩ = some (.slice A1_x0 ls.length c1_x0) := (blk_cell F_bx2.out.b 1).trans rfl
  have cbx3_0_w16 : w16.cell? ⟨gb3, 0, none⟩ = some (.slice A0_g0 R.length c0_g0) := (blk_cell F_bx3.out.b 0).trans rfl
  have cbx3_1_w16 : w16.cell? ⟨gb3, 1, none⟩ = some (.slice A1_g0 ws.length c1_g0) := (blk_cell F_bx3.out.b 1).trans rfl
  clear hb
  obtain ⟨A_y1, c_y1, e_y1, _, _⟩ := m_y1.out.reads; subst e_y1; have F_y1 := m_y1; clear m_y1
  go_wp2_with fail
  refine (laws_eqBoolS.calls _ _ _ _ _ _ _ _ _ (Kd.R_reads' F_x1.out.r).2.2 (Kd.R_reads' F_x1.out.r).2.1 (Kd.R_reads' F_y1.out.r).2.2 (Kd.R_reads' F_y1.out.r).2.1 H11.out).mono ?_
  rintro e_ w17 ⟨rfl, h_⟩; have hb := h_.below; clear h_
  have n_ := Aside0.mk (F_bx0.out.below hb); clear F_bx0; have F_bx0 := n_; clear n_
  have n_ := Aside0.mk (F_w0.out.below hb); clear F_w0; have F_w0 := n_; clear n_
  have n_ := Aside0.mk (F_bx1.out.below hb); clear F_bx1; have F_bx1 := n_; clear n_
  have n_ := Aside0.mk (F_x0.out.below hb); clear F_x0; have F_x0 := n_; clear n_
  have n_ := Aside0.mk (F_bx2.out.below hb); clear F_bx2; have F_bx2 := n_; clear n_
  have n_ := Aside0.mk (F_x1.out.below hb); clear F_x1; have F_x1 := n_; clear n_
  have n_ := Aside0.mk (F_g0.out.below hb); clear F_g0; have F_g0 := n_; clear n_
  have n_ := Aside0.mk (F_bx3.out.below hb); clear F_bx3; have F_bx3 := n_; clear n_
  have n_ := Aside0.mk (F_y1.out.below hb); clear F_y1; have F_y1 := n_; clear n_
  have Z17 := Aside0.mk (hb.size)
  have n_ := Aside0.mk (below_step HB.out hb); clear HB; have HB := n_; clear n_
  clear cbx0_0_w16 cbx0_1_w16 cbx1_0_w16 cbx1_1_w16 cbx2_0_w16 cbx2_1_w16 cbx3_0_w16 cbx3_1_w16
  have cbx0_0_w17 : w17.cell? ⟨gb0, 0, none⟩ = some (.slice A0_0 h.length c0_0) := (blk_cell F_bx0.out.b 0).trans rfl
  have cbx0_1_w17 : w17.cell? ⟨gb0, 1, none⟩ = some (.slice A0_1 l.length c0_1) := (blk_cell F_bx0.out.b 1).trans rfl
  have cbx1_0_w17 : w17.cell? ⟨gb1, 0, none⟩ = some (.slice A0_w0 R.length c0_w0) := (blk_cell F_bx1.out.b 0).trans rfl
  have cbx1_1_w17 : w17.cell? ⟨gb1, 1, none⟩ = some (.slice A1_w0 ws.length c1_w0) := (blk_cell F_bx1.out.b 1).trans rfl
  have cbx2_0_w17 : w17.cell? ⟨gb2, 0, none⟩ = some (.slice A0_x0 h.length c0_x0) := (blk_cell F_bx2.out.b 0).trans rfl
  have cbx2_1_w17 : w17.cell? ⟨gb2, 1, none⟩ = some (.slice A1_x0 ls.length c1_x0) := (blk_cell F_bx2.out.b 1).trans rfl
  have cbx3_0_w17 : w17.cell? ⟨gb3, 0, none⟩ = some (.slice A0_g0 R.length c0_g0) := (blk_cell F_bx3.out.b 0).trans rfl
  have cbx3_1_w17 : w17.cell? ⟨gb3, 1, none⟩ = some (.slice A1_g0 ws.length c1_g0) := (blk_cell F_bx3.out.b 1).trans rfl
  clear hb
  clear F_y1
  go_wp2_with fail
  refine (laws_markDevice.calls _ _ _ _ _ _ _ _ _ _ _ w _ HB.out F_x0.out H6.out).mono ?_
  rintro e_ w18 ⟨rfl, hm_, hb, hk⟩
  have n_ := Aside0.mk (F_bx0.out.kept hk (lo2 := w6.heap.size) (hi2 := w7.heap.size) (fun _ h => h) (by have z1 := Z1.out; have z2 := Z2.out; have z3 := Z3.out; have z4 := Z4.out; have z5 := Z5.out; have z6 := Z6.out; have z7 := Z7.out; have z8 := Z8.out; have z9 := Z9.out; have z10 := Z10.out; have z11 := Z11.out; have z12 := Z12.out; have z13 := Z13.out; have z14 := Z14.out; have z15 := Z15.out; have z16 := Z16.out; have z17 := Z17.out; omega)); clear F_bx0; have F_bx0 := n_; clear n_
  have n_ := Aside0.mk (F_w0.out.kept hk (lo2 := w6.heap.size) (hi2 := w7.heap.size) (fun _ h => h) (by have z1 := Z1.out; have z2 := Z2.out; have z3 := Z3.out; have z4 := Z4.out; have z5 := Z5.out; have z6 := Z6.out; have z7 := Z7.out; have z8 := Z8.out; have z9 := Z9.out; have z10 := Z10.out; have z11 := Z11.out; have z12 := Z12.out; have z13 := Z13.out; have z14 := Z14.out; have z15 := Z15.out; have z16 := Z16.out; have z17 := Z17.out; omega)); clear F_w0; have F_w0 := n_; clear n_
  have n_ := Aside0.mk (F_bx1.out.kept hk (lo2 := w6.heap.size) (hi2 := w7.heap.size) (fun _ h => h) (by have z1 := Z1.out; have z2 := Z2.out; have z3 := Z3.out; have z4 := Z4.out; have z5 := Z5.out; have z6 := Z6.out; have z7 := Z7.out; have z8 := Z8.out; have z9 := Z9.out; have z10 := Z10.out; have z11 := Z11.out; have z12 := Z12.out; have z13 := Z13.out; have z14 := Z14.out; have z15 := Z15.out; have z16 := Z16.out; have z17 := Z17.out; omega)); clear F_bx1; have F_bx1 := n_; clear n_
  have n_ := Aside0.mk (F_bx2.out.kept hk (lo2 := w6.heap.size) (hi2 := w7.heap.size) (fun _ h => h) (by have z1 := Z1.out; have z2 := Z2.out; have z3 := Z3.out; have z4 := Z4.out; have z5 := Z5.out; have z6 := Z6.out; have z7 := Z7.out; have z8 := Z8.out; have z9 := Z9.out; have z10 := Z10.out; have z11 := Z11.out; have z12 := Z12.out; have z13 := Z13.out; have z14 := Z14.out; have z15 := Z15.out; have z16 := Z16.out; have z17 := Z17.out; omega)); clear F_bx2; have F_bx2 := n_; clear n_
  have n_ := Aside0.mk (F_x1.out.kept hk (lo2 := w6.heap.size) (hi2 := w7.heap.size) (fun _ h => h) (by have z1 := Z1.out; have z2 := Z2.out; have z3 := Z3.out; have z4 := Z4.out; have z5 := Z5.out; have z6 := Z6.out; have z7 := Z7.out; have z8 := Z8.out; have z9 := Z9.out; have z10 := Z10.out; have z11 := Z11.out; have z12 := Z12.out; have z13 := Z13.out; have z14 := Z14.out; have z15 := Z15.out; have z16 := Z16.out; have z17 := Z17.out; omega)); clear F_x1; have F_x1 := n_; clear n_
  have n_ := Aside0.mk (F_g0.out.kept hk (lo2 := w6.heap.size) (hi2 := w7.heap.size) (fun _ h => h) (by have z1 := Z1.out; have z2 := Z2.out; have z3 := Z3.out; have z4 := Z4.out; have z5 := Z5.out; have z6 := Z6.out; have z7 := Z7.out; have z8 := Z8.out; have z9 := Z9.out; have z10 := Z10.out; have z11 := Z11.out; have z12 := Z12.out; have z13 := Z13.out; have z14 := Z14.out; have z15 := Z15.out; have z16 := Z16.out; have z17 := Z17.out; omega)); clear F_g0; have F_g0 := n_; clear n_
  have n_ := Aside0.mk (F_bx3.out.kept hk (lo2 := w6.heap.size) (hi2 := w7.heap.size) (fun _ h => h) (by have z1 := Z1.out; have z2 := Z2.out; have z3 := Z3.out; have z4 := Z4.out; have z5 := Z5.out; have z6 := Z6.out; have z7 := Z7.out; have z8 := Z8.out; have z9 := Z9.out; have z10 := Z10.out; have z11 := Z11.out; have z12 := Z12.out; have z13 := Z13.out; have z14 := Z14.out; have z15 := Z15.out; have z16 := Z16.out; have z17 := Z17.out; omega)); clear F_bx3; have F_bx3 := n_; clear n_
  have Z18 := Aside0.mk hk.1
  clear HB; have HB := Aside0.mk hb
  clear cbx0_0_w17 cbx0_1_w17 cbx1_0_w17 cbx1_1_w17 cbx2_0_w17 cbx2_1_w17 cbx3_0_w17 cbx3_1_w17
  have cbx0_0_w18 : w18.cell? ⟨gb0, 0, none⟩ = some (.slice A0_0 h.length c0_0) := (blk_cell F_bx0.out.b 0).trans rfl
  have cbx0_1_w18 : w18.cell? ⟨gb0, 1, none⟩ = some (.slice A0_1 l.length c0_1) := (blk_cell F_bx0.out.b 1).trans rfl
  have cbx1_0_w18 : w18.cell? ⟨gb1, 0, none⟩ = some (.slice A0_w0 R.length c0_w0) := (blk_cell F_bx1.out.b 0).trans rfl
  have cbx1_1_w18 : w18.cell? ⟨gb1, 1, none⟩ = some (.slice A1_w0 ws.length c1_w0) := (blk_cell F_bx1.out.b 1).trans rfl
  have cbx2_0_w18 : w18.cell? ⟨gb2, 0, none⟩ = some (.slice A0_x0 h.length c0_x0) := (blk_cell F_bx2.out.b 0).trans rfl
  have cbx2_1_w18 : w18.cell? ⟨gb2, 1, none⟩ = some (.slice A1_x0 ls.length c1_x0) := (blk_cell F_bx2.out.b 1).trans rfl
  have cbx3_0_w18 : w18.cell? ⟨gb3, 0, none⟩ = some (.slice A0_g0 R.length c0_g0) := (blk_cell F_bx3.out.b 0).trans rfl
  have cbx3_1_w18 : w18.cell? ⟨gb3, 1, none⟩ = some (.slice A1_g0 ws.length c1_g0) := (blk_cell F_bx3.out.b 1).trans rfl
  clear hm_ hb hk
  clear F_x0
  go_wp2_with fail
  refine (laws_markBoolS.calls _ (OpenWin.win w8.heap.size w9.heap.size) _ _ _ _ _ w _ HB.out F_x1.out.r H7.out).mono ?_
  rintro e_ w19 ⟨rfl, hm_, hb, hk⟩
  have n_ := Aside0.mk (F_bx0.out.kept hk (lo2 := w8.heap.size) (hi2 := w9.heap.size) (fun _ h => h) (by have z1 := Z1.out; have z2 := Z2.out; have z3 := Z3.out; have z4 := Z4.out; have z5 := Z5.out; have z6 := Z6.out; have z7 := Z7.out; have z8 := Z8.out; have z9 := Z9.out; have z10 := Z10.out; have z11 := Z11.out; have z12 := Z12.out; have z13 := Z13.out; have z14 := Z14.out; have z15 := Z15.out; have z16 := Z16.out; have z17 := Z17.out; have z18 := Z18.out; omega)); clear F_bx0; have F_bx0 := n_; clear n_
  have n_ := Aside0.mk (F_w0.out.kept hk (lo2 := w8.heap.size) (hi2 := w9.heap.size) (fun _ h => h) (by have z1 := Z1.out; have z2 := Z2.out; have z3 := Z3.out; have z4 := Z4.out; have z5 := Z5.out; have z6 := Z6.out; have z7 := Z7.out; have z8 := Z8.out; have z9 := Z9.out; have z10 := Z10.out; have z11 := Z11.out; have z12 := Z12.out; have z13 := Z13.out; have z14 := Z14.out; have z15 := Z15.out; have z16 := Z16.out; have z17 := Z17.out; have z18 := Z18.out; omega)); clear F_w0; have F_w0 := n_; clear n_
  have n_ := Aside0.mk (F_bx1.out.kept hk (lo2 := w8.heap.size) (hi2 := w9.heap.size) (fun _ h => h) (by have z1 := Z1.out; have z2 := Z2.out; have z3 := Z3.out; have z4 := Z4.out; have z5 := Z5.out; have z6 := Z6.out; have z7 := Z7.out; have z8 := Z8.out; have z9 := Z9.out; have z10 := Z10.out; have z11 := Z11.out; have z12 := Z12.out; have z13 := Z13.out; have z14 := Z14.out; have z15 := Z15.out; have z16 := Z16.out; have z17 := Z17.out; have z18 := Z18.out; omega)); clear F_bx1; have F_bx1 := n_; clear n_
  have n_ := Aside0.mk (F_bx2.out.kept hk (lo2 := w8.heap.size) (hi2 := w9.heap.size) (fun _ h => h) (by have z1 := Z1.out; have z2 := Z2.out; have z3 := Z3.out; have z4 := Z4.out; have z5 := Z5.out; have z6 := Z6.out; have z7 := Z7.out; have z8 := Z8.out; have z9 := Z9.out; have z10 := Z10.out; have z11 := Z11.out; have z12 := Z12.out; have z13 := Z13.out; have z14 := Z14.out; have z15 := Z15.out; have z16 := Z16.out; have z17 := Z17.out; have z18 := Z18.out; omega)); clear F_bx2; have F_bx2 := n_; clear n_
  have n_ := Aside0.mk (F_g0.out.kept hk (lo2 := w8.heap.size) (hi2 := w9.heap.size) (fun _ h => h) (by have z1 := Z1.out; have z2 := Z2.out; have z3 := Z3.out; have z4 := Z4.out; have z5 := Z5.out; have z6 := Z6.out; have z7 := Z7.out; have z8 := Z8.out; have z9 := Z9.out; have z10 := Z10.out; have z11 := Z11.out; have z12 := Z12.out; have z13 := Z13.out; have z14 := Z14.out; have z15 := Z15.out; have z16 := Z16.out; have z17 := Z17.out; have z18 := Z18.out; omega)); clear F_g0; have F_g0 := n_; clear n_
  have n_ := Aside0.mk (F_bx3.out.kept hk (lo2 := w8.heap.size) (hi2 := w9.heap.size) (fun _ h => h) (by have z1 := Z1.out; have z2 := Z2.out; have z3 := Z3.out; have z4 := Z4.out; have z5 := Z5.out; have z6 := Z6.out; have z7 := Z7.out; have z8 := Z8.out; have z9 := Z9.out; have z10 := Z10.out; have z11 := Z11.out; have z12 := Z12.out; have z13 := Z13.out; have z14 := Z14.out; have z15 := Z15.out; have z16 := Z16.out; have z17 := Z17.out; have z18 := Z18.out; omega)); clear F_bx3; have F_bx3 := n_; clear n_
  have Z19 := Aside0.mk hk.1
  clear HB; have HB := Aside0.mk hb
  clear cbx0_0_w18 cbx0_1_w18 cbx1_0_w18 cbx1_1_w18 cbx2_0_w18 cbx2_1_w18 cbx3_0_w18 cbx3_1_w18
  have cbx0_0_w19 : w19.cell? ⟨gb0, 0, none⟩ = some (.slice A0_0 h.length c0_0) := (blk_cell F_bx0.out.b 0).trans rfl
  have cbx0_1_w19 : w19.cell? ⟨gb0, 1, none⟩ = some (.slice A0_1 l.length c0_1) := (blk_cell F_bx0.out.b 1).trans rfl
  have cbx1_0_w19 : w19.cell? ⟨gb1, 0, none⟩ = some (.slice A0_w0 R.length c0_w0) := (blk_cell F_bx1.out.b 0).trans rfl
  have cbx1_1_w19 : w19.cell? ⟨gb1, 1, none⟩ = some (.slice A1_w0 ws.length c1_w0) := (blk_cell F_bx1.out.b 1).trans rfl
  have cbx2_0_w19 : w19.cell? ⟨gb2, 0, none⟩ = some (.slice A0_x0 h.length c0_x0) := (blk_cell F_bx2.out.b 0).trans rfl
  have cbx2_1_w19 : w19.cell? ⟨gb2, 1, none⟩ = some (.slice A1_x0 ls.length c1_x0) := (blk_cell F_bx2.out.b 1).trans rfl
  have cbx3_0_w19 : w19.cell? ⟨gb3, 0, none⟩ = some (.slice A0_g0 R.length c0_g0) := (blk_cell F_bx3.out.b 0).trans rfl
  have cbx3_1_w19 : w19.cell? ⟨gb3, 1, none⟩ = some (.slice A1_g0 ws.length c1_g0) := (blk_cell F_bx3.out.b 1).trans rfl
  clear hm_ hb hk
  clear F_x1
  go_wp2_with fail
  refine (laws_eqDevice.calls _ _ _ _ _ _ _ _ _ _ _ _ _ _ _ (Kd.R_reads' F_g0.out.r).2.2 (Kd.R_reads' F_g0.out.r).2.1 (Kd.S_reads' F_g0.out.s).2.2 (Kd.S_reads' F_g0.out.s).2.1 (Kd.R_reads' F_w0.out.r).2.2 (Kd.R_reads' F_w0.out.r).2.1 (Kd.S_reads' F_w0.out.s).2.2 (Kd.S_reads' F_w0.out.s).2.1 H4.out).mono ?_
  rintro e_ w20 ⟨rfl, h_⟩; have hb := h_; clear h_
  have n_ := Aside0.mk (F_bx0.out.below hb); clear F_bx0; have F_bx0 := n_; clear n_
  have n_ := Aside0.mk (F_w0.out.below hb); clear F_w0; have F_w0 := n_; clear n_
  have n_ := Aside0.mk (F_bx1.out.below hb); clear F_bx1; have F_bx1 := n_; clear n_
  have n_ := Aside0.mk (F_bx2.out.below hb); clear F_bx2; have F_bx2 := n_; clear n_
  have n_ := Aside0.mk (F_g0.out.below hb); clear F_g0; have F_g0 := n_; clear n_
  have n_ := Aside0.mk (F_bx3.out.below hb); clear F_bx3; have F_bx3 := n_; clear n_
  have Z20 := Aside0.mk (hb.size)
  have n_ := Aside0.mk (below_step HB.out hb); clear HB; have HB := n_; clear n_
  clear cbx0_0_w19 cbx0_1_w19 cbx1_0_w19 cbx1_1_w19 cbx2_0_w19 cbx2_1_w19 cbx3_0_w19 cbx3_1_w19
  have cbx0_0_w20 : w20.cell? ⟨gb0, 0, none⟩ = some (.slice A0_0 h.length c0_0) := (blk_cell F_bx0.out.b 0).trans rfl
  have cbx0_1_w20 : w20.cell? ⟨gb0, 1, none⟩ = some (.slice A0_1 l.length c0_1) := (blk_cell F_bx0.out.b 1).trans rfl
  have cbx1_0_w20 : w20.cell? ⟨gb1, 0, none⟩ = some (.slice A0_w0 R.length c0_w0) := (blk_cell F_bx1.out.b 0).trans rfl
  have cbx1_1_w20 : w20.cell? ⟨gb1, 1, none⟩ = some (.slice A1_w0 ws.length c1_w0) := (blk_cell F_bx1.out.b 1).trans rfl
  have cbx2_0_w20 : w20.cell? ⟨gb2, 0, none⟩ = some (.slice A0_x0 h.length c0_x0) := (blk_cell F_bx2.out.b 0).trans rfl
  have cbx2_1_w20 : w20.cell? ⟨gb2, 1, none⟩ = some (.slice A1_x0 ls.length c1_x0) := (blk_cell F_bx2.out.b 1).trans rfl
  have cbx3_0_w20 : w20.cell? ⟨gb3, 0, none⟩ = some (.slice A0_g0 R.length c0_g0) := (blk_cell F_bx3.out.b 0).trans rfl
  have cbx3_1_w20 : w20.cell? ⟨gb3, 1, none⟩ = some (.slice A1_g0 ws.length c1_g0) := (blk_cell F_bx3.out.b 1).trans rfl
  clear hb
  go_wp2_with fail
  refine (laws_markDevice.calls _ _ _ _ _ _ _ _ _ _ _ w _ HB.out F_g0.out H8.out).mono ?_
  rintro e_ w21 ⟨rfl, hm_, hb, hk⟩
  have n_ := Aside0.mk (F_bx0.out.kept hk (lo2 := w9.heap.size) (hi2 := w10.heap.size) (fun _ h => h) (by have z1 := Z1.out; have z2 := Z2.out; have z3 := Z3.out; have z4 := Z4.out; have z5 := Z5.out; have z6 := Z6.out; have z7 := Z7.out; have z8 := Z8.out; have z9 := Z9.out; have z10 := Z10.out; have z11 := Z11.out; have z12 := Z12.out; have z13 := Z13.out; have z14 := Z14.out; have z15 := Z15.out; have z16 := Z16.out; have z17 := Z17.out; have z18 := Z18.out; have z19 := Z19.out; have z20 := Z20.out; omega)); clear F_bx0; have F_bx0 := n_; clear n_
  have n_ := Aside0.mk (F_w0.out.kept hk (lo2 := w9.heap.size) (hi2 := w10.heap.size) (fun _ h => h) (by have z1 := Z1.out; have z2 := Z2.out; have z3 := Z3.out; have z4 := Z4.out; have z5 := Z5.out; have z6 := Z6.out; have z7 := Z7.out; have z8 := Z8.out; have z9 := Z9.out; have z10 := Z10.out; have z11 := Z11.out; have z12 := Z12.out; have z13 := Z13.out; have z14 := Z14.out; have z15 := Z15.out; have z16 := Z16.out; have z17 := Z17.out; have z18 := Z18.out; have z19 := Z19.out; have z20 := Z20.out; omega)); clear F_w0; have F_w0 := n_; clear n_
  have n_ := Aside0.mk (F_bx1.out.kept hk (lo2 := w9.heap.size) (hi2 := w10.heap.size) (fun _ h => h) (by have z1 := Z1.out; have z2 := Z2.out; have z3 := Z3.out; have z4 := Z4.out; have z5 := Z5.out; have z6 := Z6.out; have z7 := Z7.out; have z8 := Z8.out; have z9 := Z9.out; have z10 := Z10.out; have z11 := Z11.out; have z12 := Z12.out; have z13 := Z13.out; have z14 := Z14.out; have z15 := Z15.out; have z16 := Z16.out; have z17 := Z17.out; have z18 := Z18.out; have z19 := Z19.out; have z20 := Z20.out; omega)); clear F_bx1; have F_bx1 := n_; clear n_
  have n_ := Aside0.mk (F_bx2.out.kept hk (lo2 := w9.heap.size) (hi2 := w10.heap.size) (fun _ h => h) (by have z1 := Z1.out; have z2 := Z2.out; have z3 := Z3.out; have z4 := Z4.out; have z5 := Z5.out; have z6 := Z6.out; have z7 := Z7.out; have z8 := Z8.out; have z9 := Z9.out; have z10 := Z10.out; have z11 := Z11.out; have z12 := Z12.out; have z13 := Z13.out; have z14 := Z14.out; have z15 := Z15.out; have z16 := Z16.out; have z17 := Z17.out; have z18 := Z18.out; have z19 := Z19.out; have z20 := Z20.out; omega)); clear F_bx2; have F_bx2 := n_; clear n_
  have n_ := Aside0.mk (F_bx3.out.kept hk (lo2 := w9.heap.size) (hi2 := w10.heap.size) (fun _ h => h) (by have z1 := Z1.out; have z2 := Z2.out; have z3 := Z3.out; have z4 := Z4.out; have z5 := Z5.out; have z6 := Z6.out; have z7 := Z7.out; have z8 := Z8.out; have z9 := Z9.out; have z10 := Z10.out; have z11 := Z11.out; have z12 := Z12.out; have z13 := Z13.out; have z14 := Z14.out; have z15 := Z15.out; have z16 := Z16.out; have z17 := Z17.out; have z18 := Z18.out; have z19 := Z19.out; have z20 := Z20.out; omega)); clear F_bx3; have F_bx3 := n_; clear n_
  have Z21 := Aside0.mk hk.1
  clear HB; have HB := Aside0.mk hb
  clear cbx0_0_w20 cbx0_1_w20 cbx1_0_w20 cbx1_1_w20 cbx2_0_w20 cbx2_1_w20 cbx3_0_w20 cbx3_1_w20
  have cbx0_0_w21 : w21.cell? ⟨gb0, 0, none⟩ = some (.slice A0_0 h.length c0_0) := (blk_cell F_bx0.out.b 0).trans rfl
  have cbx0_1_w21 : w21.cell? ⟨gb0, 1, none⟩ = some (.slice A0_1 l.length c0_1) := (blk_cell F_bx0.out.b 1).trans rfl
  have cbx1_0_w21 : w21.cell? ⟨gb1, 0, none⟩ = some (.slice A0_w0 R.length c0_w0) := (blk_cell F_bx1.out.b 0).trans rfl
  have cbx1_1_w21 : w21.cell? ⟨gb1, 1, none⟩ = some (.slice A1_w0 ws.length c1_w0) := (blk_cell F_bx1.out.b 1).trans rfl
  have cbx2_0_w21 : w21.cell? ⟨gb2, 0, none⟩ = some (.slice A0_x0 h.length c0_x0) := (blk_cell F_bx2.out.b 0).trans rfl
  have cbx2_1_w21 : w21.cell? ⟨gb2, 1, none⟩ = some (.slice A1_x0 ls.length c1_x0) := (blk_cell F_bx2.out.b 1).trans rfl
  have cbx3_0_w21 : w21.cell? ⟨gb3, 0, none⟩ = some (.slice A0_g0 R.length c0_g0) := (blk_cell F_bx3.out.b 0).trans rfl
  have cbx3_1_w21 : w21.cell? ⟨gb3, 1, none⟩ = some (.slice A1_g0 ws.length c1_g0) := (blk_cell F_bx3.out.b 1).trans rfl
  clear F_g0; have F_g0 := Aside0.mk hm_; clear hm_ hb hk
  go_wp2_with fail
  have HC_ := (laws_heldDevice.calls _ _ _ _ _ _ _ _ _ _ (Kd.R_reads' F_g0.out.r).2.2 (by rw [HLEN.out]; exact (Kd.R_reads' F_g0.out.r).2.1) (Kd.S_reads' F_g0.out.s).2.2 (by rw [HLEN2.out]; exact (Kd.S_reads' F_g0.out.s).2.1) H9.out : Calls Try.prog _ _ w21 _)
  rw [HLEN.out, HLEN2.out] at HC_
  refine HC_.mono ?_
  clear HC_
  rintro e_ w22 ⟨rfl, h_⟩; have hb := h_; clear h_
  have n_ := Aside0.mk (F_bx0.out.below hb); clear F_bx0; have F_bx0 := n_; clear n_
  have n_ := Aside0.mk (F_w0.out.below hb); clear F_w0; have F_w0 := n_; clear n_
  have n_ := Aside0.mk (F_bx1.out.below hb); clear F_bx1; have F_bx1 := n_; clear n_
  have n_ := Aside0.mk (F_bx2.out.below hb); clear F_bx2; have F_bx2 := n_; clear n_
  have n_ := Aside0.mk (F_g0.out.below hb); clear F_g0; have F_g0 := n_; clear n_
  have n_ := Aside0.mk (F_bx3.out.below hb); clear F_bx3; have F_bx3 := n_; clear n_
  have Z22 := Aside0.mk (hb.size)
  have n_ := Aside0.mk (below_step HB.out hb); clear HB; have HB := n_; clear n_
  clear cbx0_0_w21 cbx0_1_w21 cbx1_0_w21 cbx1_1_w21 cbx2_0_w21 cbx2_1_w21 cbx3_0_w21 cbx3_1_w21
  have cbx0_0_w22 : w22.cell? ⟨gb0, 0, none⟩ = some (.slice A0_0 h.length c0_0) := (blk_cell F_bx0.out.b 0).trans rfl
  have cbx0_1_w22 : w22.cell? ⟨gb0, 1, none⟩ = some (.slice A0_1 l.length c0_1) := (blk_cell F_bx0.out.b 1).trans rfl
  have cbx1_0_w22 : w22.cell? ⟨gb1, 0, none⟩ = some (.slice A0_w0 R.length c0_w0) := (blk_cell F_bx1.out.b 0).trans rfl
  have cbx1_1_w22 : w22.cell? ⟨gb1, 1, none⟩ = some (.slice A1_w0 ws.length c1_w0) := (blk_cell F_bx1.out.b 1).trans rfl
  have cbx2_0_w22 : w22.cell? ⟨gb2, 0, none⟩ = some (.slice A0_x0 h.length c0_x0) := (blk_cell F_bx2.out.b 0).trans rfl
  have cbx2_1_w22 : w22.cell? ⟨gb2, 1, none⟩ = some (.slice A1_x0 ls.length c1_x0) := (blk_cell F_bx2.out.b 1).trans rfl
  have cbx3_0_w22 : w22.cell? ⟨gb3, 0, none⟩ = some (.slice A0_g0 R.length c0_g0) := (blk_cell F_bx3.out.b 0).trans rfl
  have cbx3_1_w22 : w22.cell? ⟨gb3, 1, none⟩ = some (.slice A1_g0 ws.length c1_g0) := (blk_cell F_bx3.out.b 1).trans rfl
  clear hb
  go_wp2_with fail
  refine (laws_toDevice.calls _ _ _ _ _ _ _ _ _ _ (Kd.C_below HR0_0.out HB.out) HC0_0.out (Kd.C_below HR0_1.out HB.out) HC0_1.out H1.out).mono ?_
  rintro e_ w23 ⟨v0_c, v1_c, rfl, h0_, h1_, hb⟩
  have m_c := Aside0.mk (laws_markDevice.DW.of (B := w.heap.size) h0_ h1_ HB.out.size); clear h0_ h1_
  have n_ := Aside0.mk (F_bx0.out.below hb); clear F_bx0; have F_bx0 := n_; clear n_
  have n_ := Aside0.mk (F_w0.out.below hb); clear F_w0; have F_w0 := n_; clear n_
  have n_ := Aside0.mk (F_bx1.out.below hb); clear F_bx1; have F_bx1 := n_; clear n_
  have n_ := Aside0.mk (F_bx2.out.below hb); clear F_bx2; have F_bx2 := n_; clear n_
  have n_ := Aside0.mk (F_g0.out.below hb); clear F_g0; have F_g0 := n_; clear n_
  have n_ := Aside0.mk (F_bx3.out.below hb); clear F_bx3; have F_bx3 := n_; clear n_
  have Z23 := Aside0.mk (hb.size)
  have n_ := Aside0.mk (below_step HB.out hb); clear HB; have HB := n_; clear n_
  clear cbx0_0_w22 cbx0_1_w22 cbx1_0_w22 cbx1_1_w22 cbx2_0_w22 cbx2_1_w22 cbx3_0_w22 cbx3_1_w22
  have cbx0_0_w23 : w23.cell? ⟨gb0, 0, none⟩ = some (.slice A0_0 h.length c0_0) := (blk_cell F_bx0.out.b 0).trans rfl
  have cbx0_1_w23 : w23.cell? ⟨gb0, 1, none⟩ = some (.slice A0_1 l.length c0_1) := (blk_cell F_bx0.out.b 1).trans rfl
  have cbx1_0_w23 : w23.cell? ⟨gb1, 0, none⟩ = some (.slice A0_w0 R.length c0_w0) := (blk_cell F_bx1.out.b 0).trans rfl
  have cbx1_1_w23 : w23.cell? ⟨gb1, 1, none⟩ = some (.slice A1_w0 ws.length c1_w0) := (blk_cell F_bx1.out.b 1).trans rfl
  have cbx2_0_w23 : w23.cell? ⟨gb2, 0, none⟩ = some (.slice A0_x0 h.length c0_x0) := (blk_cell F_bx2.out.b 0).trans rfl
  have cbx2_1_w23 : w23.cell? ⟨gb2, 1, none⟩ = some (.slice A1_x0 ls.length c1_x0) := (blk_cell F_bx2.out.b 1).trans rfl
  have cbx3_0_w23 : w23.cell? ⟨gb3, 0, none⟩ = some (.slice A0_g0 R.length c0_g0) := (blk_cell F_bx3.out.b 0).trans rfl
  have cbx3_1_w23 : w23.cell? ⟨gb3, 1, none⟩ = some (.slice A1_g0 ws.length c1_g0) := (blk_cell F_bx3.out.b 1).trans rfl
  clear hb
  obtain ⟨A0_c, c0_c, e_⟩ := Kd.R_slice m_c.out.r; subst e_; obtain ⟨A1_c, c1_c, e_⟩ := Kd.S_slice m_c.out.s; subst e_; have F_c := m_c; clear m_c
  go_wp2_with fail
  refine (laws_toBoolS.calls _ _ _ _ _ _ (Kd.C_below HR1.out HB.out) HC1.out H10.out).mono ?_
  rintro e_ w24 ⟨v_cb, rfl, h_cb, hb⟩
  have m_cb := Aside0.mk (OpenWin.RW.of (B := w.heap.size) (Kd.R_mono h_cb (fun _ _ => trivial)) HB.out.size)
  clear h_cb
  have n_ := Aside0.mk (F_bx0.out.below hb); clear F_bx0; have F_bx0 := n_; clear n_
  have n_ := Aside0.mk (F_w0.out.below hb); clear F_w0; have F_w0 := n_; clear n_
  have n_ := Aside0.mk (F_bx1.out.below hb); clear F_bx1; have F_bx1 := n_; clear n_
  have n_ := Aside0.mk (F_bx2.out.below hb); clear F_bx2; have F_bx2 := n_; clear n_
  have n_ := Aside0.mk (F_g0.out.below hb); clear F_g0; have F_g0 := n_; clear n_
  have n_ := Aside0.mk (F_bx3.out.below hb); clear F_bx3; have F_bx3 := n_; clear n_
  have n_ := Aside0.mk (F_c.out.below hb); clear F_c; have F_c := n_; clear n_
  have Z24 := Aside0.mk (hb.size)
  have n_ := Aside0.mk (below_step HB.out hb); clear HB; have HB := n_; clear n_
  clear cbx0_0_w23 cbx0_1_w23 cbx1_0_w23 cbx1_1_w23 cbx2_0_w23 cbx2_1_w23 cbx3_0_w23 cbx3_1_w23
  have cbx0_0_w24 : w24.cell? ⟨gb0, 0, none⟩ = some (.slice A0_0 h.length c0_0) := (blk_cell F_bx0.out.b 0).trans rfl
  have cbx0_1_w24 : w24.cell? ⟨gb0, 1, none⟩ = some (.slice A0_1 l.length c0_1) := (blk_cell F_bx0.out.b 1).trans rfl
  have cbx1_0_w24 : w24.cell? ⟨gb1, 0, none⟩ = some (.slice A0_w0 R.length c0_w0) := (blk_cell F_bx1.out.b 0).trans rfl
  have cbx1_1_w24 : w24.cell? ⟨gb1, 1, none⟩ = some (.slice A1_w0 ws.length c1_w0) := (blk_cell F_bx1.out.b 1).trans rfl
  have cbx2_0_w24 : w24.cell? ⟨gb2, 0, none⟩ = some (.slice A0_x0 h.length c0_x0) := (blk_cell F_bx2.out.b 0).trans rfl
  have cbx2_1_w24 : w24.cell? ⟨gb2, 1, none⟩ = some (.slice A1_x0 ls.length c1_x0) := (blk_cell F_bx2.out.b 1).trans rfl
  have cbx3_0_w24 : w24.cell? ⟨gb3, 0, none⟩ = some (.slice A0_g0 R.length c0_g0) := (blk_cell F_bx3.out.b 0).trans rfl
  have cbx3_1_w24 : w24.cell? ⟨gb3, 1, none⟩ = some (.slice A1_g0 ws.length c1_g0) := (blk_cell F_bx3.out.b 1).trans rfl
  clear hb
  obtain ⟨A_cb, c_cb, e_cb, _, _⟩ := m_cb.out.reads; subst e_cb; have F_cb := m_cb; clear m_cb
  go_wp2_with fail
  refine (impl_DeviceCrash.calls _ _ _ _ _ _ _ _ _ _ _ _ _ _ (Kd.R_reads' F_c.out.r).2.2 (Kd.R_reads' F_c.out.r).2.1 (Kd.S_reads' F_c.out.s).2.2 (Kd.S_reads' F_c.out.s).2.1 (Kd.R_reads' F_cb.out.r).2.2 (Kd.R_reads' F_cb.out.r).2.1 H3.out).mono ?_
  rintro e_ w25 ⟨v0_h0, v1_h0, rfl, h0_, h1_, hb⟩
  have m_h0 := Aside0.mk (laws_markDevice.DW.of (B := w.heap.size) h0_ h1_ HB.out.size); clear h0_ h1_
  have n_ := Aside0.mk (F_bx0.out.below hb); clear F_bx0; have F_bx0 := n_; clear n_
  have n_ := Aside0.mk (F_w0.out.below hb); clear F_w0; have F_w0 := n_; clear n_
  have n_ := Aside0.mk (F_bx1.out.below hb); clear F_bx1; have F_bx1 := n_; clear n_
  have n_ := Aside0.mk (F_bx2.out.below hb); clear F_bx2; have F_bx2 := n_; clear n_
  have n_ := Aside0.mk (F_g0.out.below hb); clear F_g0; have F_g0 := n_; clear n_
  have n_ := Aside0.mk (F_bx3.out.below hb); clear F_bx3; have F_bx3 := n_; clear n_
  have n_ := Aside0.mk (F_c.out.below hb); clear F_c; have F_c := n_; clear n_
  have n_ := Aside0.mk (F_cb.out.below hb); clear F_cb; have F_cb := n_; clear n_
  have Z25 := Aside0.mk (hb.size)
  have n_ := Aside0.mk (below_step HB.out hb); clear HB; have HB := n_; clear n_
  clear cbx0_0_w24 cbx0_1_w24 cbx1_0_w24 cbx1_1_w24 cbx2_0_w24 cbx2_1_w24 cbx3_0_w24 cbx3_1_w24
  have cbx0_0_w25 : w25.cell? ⟨gb0, 0, none⟩ = some (.slice A0_0 h.length c0_0) := (blk_cell F_bx0.out.b 0).trans rfl
  have cbx0_1_w25 : w25.cell? ⟨gb0, 1, none⟩ = some (.slice A0_1 l.length c0_1) := (blk_cell F_bx0.out.b 1).trans rfl
  have cbx1_0_w25 : w25.cell? ⟨gb1, 0, none⟩ = some (.slice A0_w0 R.length c0_w0) := (blk_cell F_bx1.out.b 0).trans rfl
  have cbx1_1_w25 : w25.cell? ⟨gb1, 1, none⟩ = some (.slice A1_w0 ws.length c1_w0) := (blk_cell F_bx1.out.b 1).trans rfl
  have cbx2_0_w25 : w25.cell? ⟨gb2, 0, none⟩ = some (.slice A0_x0 h.length c0_x0) := (blk_cell F_bx2.out.b 0).trans rfl
  have cbx2_1_w25 : w25.cell? ⟨gb2, 1, none⟩ = some (.slice A1_x0 ls.length c1_x0) := (blk_cell F_bx2.out.b 1).trans rfl
  have cbx3_0_w25 : w25.cell? ⟨gb3, 0, none⟩ = some (.slice A0_g0 R.length c0_g0) := (blk_cell F_bx3.out.b 0).trans rfl
  have cbx3_1_w25 : w25.cell? ⟨gb3, 1, none⟩ = some (.slice A1_g0 ws.length c1_g0) := (blk_cell F_bx3.out.b 1).trans rfl
  clear hb
  obtain ⟨A0_h0, c0_h0, e_⟩ := Kd.R_slice m_h0.out.r; subst e_; obtain ⟨A1_h0, c1_h0, e_⟩ := Kd.S_slice m_h0.out.s; subst e_; have F_h0 := m_h0; clear m_h0
  clear F_c
  clear F_cb
  have cabx0_0 : ∀ o_, (w25.alloc o_).cell? ⟨gb0, 0, none⟩ = some (.slice A0_0 h.length c0_0) := fun o_ => (blk_cell (blk_alloc F_bx0.out.b o_) 0).trans rfl
  have cabx0_1 : ∀ o_, (w25.alloc o_).cell? ⟨gb0, 1, none⟩ = some (.slice A0_1 l.length c0_1) := fun o_ => (blk_cell (blk_alloc F_bx0.out.b o_) 1).trans rfl
  have cabx1_0 : ∀ o_, (w25.alloc o_).cell? ⟨gb1, 0, none⟩ = some (.slice A0_w0 R.length c0_w0) := fun o_ => (blk_cell (blk_alloc F_bx1.out.b o_) 0).trans rfl
  have cabx1_1 : ∀ o_, (w25.alloc o_).cell? ⟨gb1, 1, none⟩ = some (.slice A1_w0 ws.length c1_w0) := fun o_ => (blk_cell (blk_alloc F_bx1.out.b o_) 1).trans rfl
  have cabx2_0 : ∀ o_, (w25.alloc o_).cell? ⟨gb2, 0, none⟩ = some (.slice A0_x0 h.length c0_x0) := fun o_ => (blk_cell (blk_alloc F_bx2.out.b o_) 0).trans rfl
  have cabx2_1 : ∀ o_, (w25.alloc o_).cell? ⟨gb2, 1, none⟩ = some (.slice A1_x0 ls.length c1_x0) := fun o_ => (blk_cell (blk_alloc F_bx2.out.b o_) 1).trans rfl
  have cabx3_0 : ∀ o_, (w25.alloc o_).cell? ⟨gb3, 0, none⟩ = some (.slice A0_g0 R.length c0_g0) := fun o_ => (blk_cell (blk_alloc F_bx3.out.b o_) 0).trans rfl
  have cabx3_1 : ∀ o_, (w25.alloc o_).cell? ⟨gb3, 1, none⟩ = some (.slice A1_g0 ws.length c1_g0) := fun o_ => (blk_cell (blk_alloc F_bx3.out.b o_) 1).trans rfl
  go_wp2_with fail
  clear cabx0_0 cabx0_1 cabx1_0 cabx1_1 cabx2_0 cabx2_1 cabx3_0 cabx3_1
  obtain ⟨w26, hnw⟩ : ∃ W_, W_ = w25.alloc (.cells #[.slice A0_h0 R.length c0_h0, .slice A1_h0 ws.length c1_h0] 50) := ⟨_, rfl⟩
  obtain ⟨gb4, hg⟩ : ∃ g_, g_ = w25.heap.size := ⟨_, rfl⟩
  rw [← hnw, ← hg]
  have hbox : w26.heap[gb4]? = some (.cells #[.slice A0_h0 R.length c0_h0, .slice A1_h0 ws.length c1_h0] 50 (0, 0)) := by rw [hnw, hg]; exact heap_alloc _ _
  have hb : Below w25.heap.size w25 w26 := by rw [hnw]; exact below_alloc (Below.refl _ _) _
  have F_bx4 := Aside0.mk (Bx.mk (lo := w25.heap.size) (hi := w26.heap.size) hbox (by rw [hg]; exact Nat.le_refl _) (Array.getElem?_eq_some_iff.1 hbox).1 (Nat.le_refl _))
  clear hnw
  have n_ := Aside0.mk (F_bx0.out.below hb); clear F_bx0; have F_bx0 := n_; clear n_
  have n_ := Aside0.mk (F_w0.out.below hb); clear F_w0; have F_w0 := n_; clear n_
  have n_ := Aside0.mk (F_bx1.out.below hb); clear F_bx1; have F_bx1 := n_; clear n_
  have n_ := Aside0.mk (F_bx2.out.below hb); clear F_bx2; have F_bx2 := n_; clear n_
  have n_ := Aside0.mk (F_g0.out.below hb); clear F_g0; have F_g0 := n_; clear n_
  have n_ := Aside0.mk (F_bx3.out.below hb); clear F_bx3; have F_bx3 := n_; clear n_
  have n_ := Aside0.mk (F_h0.out.below hb); clear F_h0; have F_h0 := n_; clear n_
  have Z26 := Aside0.mk (hb.size)
  have n_ := Aside0.mk (below_step HB.out hb); clear HB; have HB := n_; clear n_
  clear hb hbox hg
  clear cbx0_0_w25 cbx0_1_w25 cbx1_0_w25 cbx1_1_w25 cbx2_0_w25 cbx2_1_w25 cbx3_0_w25 cbx3_1_w25
  have cbx0_0_w26 : w26.cell? ⟨gb0, 0, none⟩ = some (.slice A0_0 h.length c0_0) := (blk_cell F_bx0.out.b 0).trans rfl
  have cbx0_1_w26 : w26.cell? ⟨gb0, 1, none⟩ = some (.slice A0_1 l.length c0_1) := (blk_cell F_bx0.out.b 1).trans rfl
  have cbx1_0_w26 : w26.cell? ⟨gb1, 0, none⟩ = some (.slice A0_w0 R.length c0_w0) := (blk_cell F_bx1.out.b 0).trans rfl
  have cbx1_1_w26 : w26.cell? ⟨gb1, 1, none⟩ = some (.slice A1_w0 ws.length c1_w0) := (blk_cell F_bx1.out.b 1).trans rfl
  have cbx2_0_w26 : w26.cell? ⟨gb2, 0, none⟩ = some (.slice A0_x0 h.length c0_x0) := (blk_cell F_bx2.out.b 0).trans rfl
  have cbx2_1_w26 : w26.cell? ⟨gb2, 1, none⟩ = some (.slice A1_x0 ls.length c1_x0) := (blk_cell F_bx2.out.b 1).trans rfl
  have cbx3_0_w26 : w26.cell? ⟨gb3, 0, none⟩ = some (.slice A0_g0 R.length c0_g0) := (blk_cell F_bx3.out.b 0).trans rfl
  have cbx3_1_w26 : w26.cell? ⟨gb3, 1, none⟩ = some (.slice A1_g0 ws.length c1_g0) := (blk_cell F_bx3.out.b 1).trans rfl
  have cbx4_0_w26 : w26.cell? ⟨gb4, 0, none⟩ = some (.slice A0_h0 R.length c0_h0) := (blk_cell F_bx4.out.b 0).trans rfl
  have cbx4_1_w26 : w26.cell? ⟨gb4, 1, none⟩ = some (.slice A1_h0 ws.length c1_h0) := (blk_cell F_bx4.out.b 1).trans rfl
  go_wp2_with fail
  refine (laws_eqDevice.calls _ _ _ _ _ _ _ _ _ _ _ _ _ _ _ (Kd.R_reads' F_h0.out.r).2.2 (Kd.R_reads' F_h0.out.r).2.1 (Kd.S_reads' F_h0.out.s).2.2 (Kd.S_reads' F_h0.out.s).2.1 (Kd.R_reads' F_w0.out.r).2.2 (Kd.R_reads' F_w0.out.r).2.1 (Kd.S_reads' F_w0.out.s).2.2 (Kd.S_reads' F_w0.out.s).2.1 H4.out).mono ?_
  rintro e_ w27 ⟨rfl, h_⟩; have hb := h_; clear h_
  have n_ := Aside0.mk (F_bx0.out.below hb); clear F_bx0; have F_bx0 := n_; clear n_
  have n_ := Aside0.mk (F_w0.out.below hb); clear F_w0; have F_w0 := n_; clear n_
  have n_ := Aside0.mk (F_bx1.out.below hb); clear F_bx1; have F_bx1 := n_; clear n_
  have n_ := Aside0.mk (F_bx2.out.below hb); clear F_bx2; have F_bx2 := n_; clear n_
  have n_ := Aside0.mk (F_g0.out.below hb); clear F_g0; have F_g0 := n_; clear n_
  have n_ := Aside0.mk (F_bx3.out.below hb); clear F_bx3; have F_bx3 := n_; clear n_
  have n_ := Aside0.mk (F_h0.out.below hb); clear F_h0; have F_h0 := n_; clear n_
  have n_ := Aside0.mk (F_bx4.out.below hb); clear F_bx4; have F_bx4 := n_; clear n_
  have Z27 := Aside0.mk (hb.size)
  have n_ := Aside0.mk (below_step HB.out hb); clear HB; have HB := n_; clear n_
  clear cbx0_0_w26 cbx0_1_w26 cbx1_0_w26 cbx1_1_w26 cbx2_0_w26 cbx2_1_w26 cbx3_0_w26 cbx3_1_w26 cbx4_0_w26 cbx4_1_w26
  have cbx0_0_w27 : w27.cell? ⟨gb0, 0, none⟩ = some (.slice A0_0 h.length c0_0) := (blk_cell F_bx0.out.b 0).trans rfl
  have cbx0_1_w27 : w27.cell? ⟨gb0, 1, none⟩ = some (.slice A0_1 l.length c0_1) := (blk_cell F_bx0.out.b 1).trans rfl
  have cbx1_0_w27 : w27.cell? ⟨gb1, 0, none⟩ = some (.slice A0_w0 R.length c0_w0) := (blk_cell F_bx1.out.b 0).trans rfl
  have cbx1_1_w27 : w27.cell? ⟨gb1, 1, none⟩ = some (.slice A1_w0 ws.length c1_w0) := (blk_cell F_bx1.out.b 1).trans rfl
  have cbx2_0_w27 : w27.cell? ⟨gb2, 0, none⟩ = some (.slice A0_x0 h.length c0_x0) := (blk_cell F_bx2.out.b 0).trans rfl
  have cbx2_1_w27 : w27.cell? ⟨gb2, 1, none⟩ = some (.slice A1_x0 ls.length c1_x0) := (blk_cell F_bx2.out.b 1).trans rfl
  have cbx3_0_w27 : w27.cell? ⟨gb3, 0, none⟩ = some (.slice A0_g0 R.length c0_g0) := (blk_cell F_bx3.out.b 0).trans rfl
  have cbx3_1_w27 : w27.cell? ⟨gb3, 1, none⟩ = some (.slice A1_g0 ws.length c1_g0) := (blk_cell F_bx3.out.b 1).trans rfl
  have cbx4_0_w27 : w27.cell? ⟨gb4, 0, none⟩ = some (.slice A0_h0 R.length c0_h0) := (blk_cell F_bx4.out.b 0).trans rfl
  have cbx4_1_w27 : w27.cell? ⟨gb4, 1, none⟩ = some (.slice A1_h0 ws.length c1_h0) := (blk_cell F_bx4.out.b 1).trans rfl
  clear hb
  clear F_h0
  go_wp2_with fail
  have HC_ := (laws_heldDevice.calls _ _ _ _ _ _ _ _ _ _ (Kd.R_reads' F_g0.out.r).2.2 (by rw [HLEN.out]; exact (Kd.R_reads' F_g0.out.r).2.1) (Kd.S_reads' F_g0.out.s).2.2 (by rw [HLEN2.out]; exact (Kd.S_reads' F_g0.out.s).2.1) H9.out : Calls Try.prog _ _ w27 _)
  rw [HLEN.out, HLEN2.out] at HC_
  refine HC_.mono ?_
  clear HC_
  rintro e_ w28 ⟨rfl, h_⟩; have hb := h_; clear h_
  have n_ := Aside0.mk (F_bx0.out.below hb); clear F_bx0; have F_bx0 := n_; clear n_
  have n_ := Aside0.mk (F_w0.out.below hb); clear F_w0; have F_w0 := n_; clear n_
  have n_ := Aside0.mk (F_bx1.out.below hb); clear F_bx1; have F_bx1 := n_; clear n_
  have n_ := Aside0.mk (F_bx2.out.below hb); clear F_bx2; have F_bx2 := n_; clear n_
  have n_ := Aside0.mk (F_g0.out.below hb); clear F_g0; have F_g0 := n_; clear n_
  have n_ := Aside0.mk (F_bx3.out.below hb); clear F_bx3; have F_bx3 := n_; clear n_
  have n_ := Aside0.mk (F_bx4.out.below hb); clear F_bx4; have F_bx4 := n_; clear n_
  have Z28 := Aside0.mk (hb.size)
  have n_ := Aside0.mk (below_step HB.out hb); clear HB; have HB := n_; clear n_
  clear cbx0_0_w27 cbx0_1_w27 cbx1_0_w27 cbx1_1_w27 cbx2_0_w27 cbx2_1_w27 cbx3_0_w27 cbx3_1_w27 cbx4_0_w27 cbx4_1_w27
  have cbx0_0_w28 : w28.cell? ⟨gb0, 0, none⟩ = some (.slice A0_0 h.length c0_0) := (blk_cell F_bx0.out.b 0).trans rfl
  have cbx0_1_w28 : w28.cell? ⟨gb0, 1, none⟩ = some (.slice A0_1 l.length c0_1) := (blk_cell F_bx0.out.b 1).trans rfl
  have cbx1_0_w28 : w28.cell? ⟨gb1, 0, none⟩ = some (.slice A0_w0 R.length c0_w0) := (blk_cell F_bx1.out.b 0).trans rfl
  have cbx1_1_w28 : w28.cell? ⟨gb1, 1, none⟩ = some (.slice A1_w0 ws.length c1_w0) := (blk_cell F_bx1.out.b 1).trans rfl
  have cbx2_0_w28 : w28.cell? ⟨gb2, 0, none⟩ = some (.slice A0_x0 h.length c0_x0) := (blk_cell F_bx2.out.b 0).trans rfl
  have cbx2_1_w28 : w28.cell? ⟨gb2, 1, none⟩ = some (.slice A1_x0 ls.length c1_x0) := (blk_cell F_bx2.out.b 1).trans rfl
  have cbx3_0_w28 : w28.cell? ⟨gb3, 0, none⟩ = some (.slice A0_g0 R.length c0_g0) := (blk_cell F_bx3.out.b 0).trans rfl
  have cbx3_1_w28 : w28.cell? ⟨gb3, 1, none⟩ = some (.slice A1_g0 ws.length c1_g0) := (blk_cell F_bx3.out.b 1).trans rfl
  have cbx4_0_w28 : w28.cell? ⟨gb4, 0, none⟩ = some (.slice A0_h0 R.length c0_h0) := (blk_cell F_bx4.out.b 0).trans rfl
  have cbx4_1_w28 : w28.cell? ⟨gb4, 1, none⟩ = some (.slice A1_h0 ws.length c1_h0) := (blk_cell F_bx4.out.b 1).trans rfl
  clear hb
  go_wp2
  go_ret
  exact ⟨rfl, HB.out⟩
set_option maxHeartbeats 16000000 in
set_option maxRecDepth 100000 in
theorem long (h : List Int) (l : List S114) (b : List Bool) (z : Int) (k0 : Nat) (hn : b.length ≤ 1048576) (h0 : laws_szDevice.f k0 h l 1048576 = some z) (hz : z < 0) (A0_0 : Option Addr) (c0_0 : Nat) (A0_1 : Option Addr) (c0_1 : Nat) (A1 : Option Addr) (c1 : Nat) (w : World) (hr0_0 : Kd.C (Kd.int .u8) w A0_0 h.length h) (hc0_0 : h.length ≤ c0_0) (hr0_1 : Kd.C k114 w A0_1 l.length l) (hc0_1 : l.length ≤ c0_1) (hr1 : Kd.C Kd.bool w A1 b.length b) (hc1 : b.length ≤ c1) :
    Calls Try.prog 6 #[.agg #[.slice A0_0 h.length c0_0, .slice A0_1 l.length c0_1], .slice A1 b.length c1] w fun e w' => e = .returned (.bool true) ∧ Below w.heap.size w w' := by
  have H0 := Aside0.mk h0
  have HR0_0 := Aside0.mk hr0_0
  have HC0_0 := Aside0.mk hc0_0
  have HR0_1 := Aside0.mk hr0_1
  have HC0_1 := Aside0.mk hc0_1
  have HB := Aside0.mk (Below.refl w.heap.size w)
  have HR1 := Aside0.mk hr1
  have HC1 := Aside0.mk hc1
  clear hr1 hc1
  have t4 : decide ((b.length : Int) > 1048576) = false := decide_eq_false (by omega)
  have t4b : decide ((1048576 : Int) < (b.length : Int)) = false := decide_eq_false (by omega)
  have t0 : decide (z < 0) = true := decide_eq_true hz
  clear h0 hr0_0 hc0_0 hr0_1 hc0_1 hz hn
  go_enter Try.func6, Try.ntmps6
  go_wp2_with ((with_reducible refine gate_dst (N := 2) rfl ?_); refine box_event ?hg (N := 2) ?hd (cs := #[.slice A0_0 h.length c0_0, .slice A0_1 l.length c0_1]) (t := 45) ?hr ?_; (case hd => rfl); (case hg => rfl); (case hr => first | (go_simp; done) | (go_simp; rfl)); intro gb0 hg w1 hbox hb; have F_bx0 := Aside0.mk (Bx.mk (lo := w.heap.size) (hi := w1.heap.size) hbox (by rw [hg]; exact Nat.le_refl _) (Array.getElem?_eq_some_iff.1 hbox).1 (Nat.le_refl _)); have Z1 := Aside0.mk (hb.size); have n_ := Aside0.mk (below_step HB.out hb); clear HB; have HB := n_; clear n_; clear hb hbox hg; have cbx0_0_w1 : w1.cell? ⟨gb0, 0, none⟩ = some (.slice A0_0 h.length c0_0) := (blk_cell F_bx0.out.b 0).trans rfl; have cbx0_1_w1 : w1.cell? ⟨gb0, 1, none⟩ = some (.slice A0_1 l.length c0_1) := (blk_cell F_bx0.out.b 1).trans rfl)
  go_wp2_with fail
  refine (laws_szDevice.calls _ _ _ _ _ _ _ _ _ _ (Kd.C_below HR0_0.out HB.out) HC0_0.out (Kd.C_below HR0_1.out HB.out) HC0_1.out H0.out).mono ?_
  rintro e_ w2 ⟨rfl, h_⟩; have hb := h_; clear h_
  have n_ := Aside0.mk (F_bx0.out.below hb); clear F_bx0; have F_bx0 := n_; clear n_
  have Z2 := Aside0.mk (hb.size)
  have n_ := Aside0.mk (below_step HB.out hb); clear HB; have HB := n_; clear n_
  clear cbx0_0_w1 cbx0_1_w1
  have cbx0_0_w2 : w2.cell? ⟨gb0, 0, none⟩ = some (.slice A0_0 h.length c0_0) := (blk_cell F_bx0.out.b 0).trans rfl
  have cbx0_1_w2 : w2.cell? ⟨gb0, 1, none⟩ = some (.slice A0_1 l.length c0_1) := (blk_cell F_bx0.out.b 1).trans rfl
  clear hb
  go_wp2
  go_ret
  exact ⟨rfl, HB.out⟩
set_option maxHeartbeats 16000000 in
set_option maxRecDepth 100000 in
theorem long0 (h : List Int) (l : List S114) (b : List Bool) (hn : 1048576 < b.length) (A0_0 : Option Addr) (c0_0 : Nat) (A0_1 : Option Addr) (c0_1 : Nat) (A1 : Option Addr) (c1 : Nat) (w : World) (hr0_0 : Kd.C (Kd.int .u8) w A0_0 h.length h) (hc0_0 : h.length ≤ c0_0) (hr0_1 : Kd.C k114 w A0_1 l.length l) (hc0_1 : l.length ≤ c0_1) (hr1 : Kd.C Kd.bool w A1 b.length b) (hc1 : b.length ≤ c1) :
    Calls Try.prog 6 #[.agg #[.slice A0_0 h.length c0_0, .slice A0_1 l.length c0_1], .slice A1 b.length c1] w fun e w' => e = .returned (.bool true) ∧ Below w.heap.size w w' := by
  have HR0_0 := Aside0.mk hr0_0
  have HC0_0 := Aside0.mk hc0_0
  have HR0_1 := Aside0.mk hr0_1
  have HC0_1 := Aside0.mk hc0_1
  have HB := Aside0.mk (Below.refl w.heap.size w)
  have HR1 := Aside0.mk hr1
  have HC1 := Aside0.mk hc1
  clear hr1 hc1
  have t4 : decide ((b.length : Int) > 1048576) = true := decide_eq_true (by omega)
  have t4b : decide ((1048576 : Int) < (b.length : Int)) = true := decide_eq_true (by omega)
  clear  hr0_0 hc0_0 hr0_1 hc0_1 hn
  go_enter Try.func6, Try.ntmps6
  go_wp2_with ((with_reducible refine gate_dst (N := 2) rfl ?_); refine box_event ?hg (N := 2) ?hd (cs := #[.slice A0_0 h.length c0_0, .slice A0_1 l.length c0_1]) (t := 45) ?hr ?_; (case hd => rfl); (case hg => rfl); (case hr => first | (go_simp; done) | (go_simp; rfl)); intro gb0 hg w1 hbox hb; have F_bx0 := Aside0.mk (Bx.mk (lo := w.heap.size) (hi := w1.heap.size) hbox (by rw [hg]; exact Nat.le_refl _) (Array.getElem?_eq_some_iff.1 hbox).1 (Nat.le_refl _)); have Z1 := Aside0.mk (hb.size); have n_ := Aside0.mk (below_step HB.out hb); clear HB; have HB := n_; clear n_; clear hb hbox hg; have cbx0_0_w1 : w1.cell? ⟨gb0, 0, none⟩ = some (.slice A0_0 h.length c0_0) := (blk_cell F_bx0.out.b 0).trans rfl; have cbx0_1_w1 : w1.cell? ⟨gb0, 1, none⟩ = some (.slice A0_1 l.length c0_1) := (blk_cell F_bx0.out.b 1).trans rfl)
  go_wp2
  go_ret
  exact ⟨rfl, HB.out⟩
end Go.Proofs.Ythojdfndgfpkpaa.WalkFnExactDeviceCrash
