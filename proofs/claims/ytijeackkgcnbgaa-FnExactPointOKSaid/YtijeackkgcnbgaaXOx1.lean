-- Written by a program of this session (xp.py over the kit's printer, with functions proved by hand). Lean checks it.
import Derived.Test.YtijeackkgcnbgaaXOx0
namespace Go.Proofs.Ytijeackkgcnbgaa.XO
open Go.Proofs.Ytijeackkgcnbgaa.Limb Go.Proofs.Ytijeackkgcnbgaa.Arr Go.Proofs.Ytijeackkgcnbgaa.FldA Go.Proofs.Ytijeackkgcnbgaa.FldB Go.Proofs.Ytijeackkgcnbgaa.FldC Go.Proofs.Ytijeackkgcnbgaa.FldS Go.Proofs.Ytijeackkgcnbgaa.FldP Go.Proofs.Ytijeackkgcnbgaa.FldW Go.Proofs.Ytijeackkgcnbgaa.FldM Go.Proofs.Ytijeackkgcnbgaa.FldT Go.Proofs.Ytijeackkgcnbgaa.FldRoot Go.Proofs.Ytijeackkgcnbgaa.FldRoot2 Go.Proofs.Ytijeackkgcnbgaa.FldPt Go.Proofs.Ytijeackkgcnbgaa.St Go.Proofs.Ytijeackkgcnbgaa.StOps Go.Proofs.Ytijeackkgcnbgaa.StMid Go.Proofs.Ytijeackkgcnbgaa.StEq Go.Proofs.Ytijeackkgcnbgaa.StPt Go.Proofs.Ytijeackkgcnbgaa.StIdx
open Go.RowKit Go.Proofs.YtijeackkgcnbgaaW.PrintWords Go.Proofs.YtijeackkgcnbgaaW.PrintLast Go.Proofs.YtijeackkgcnbgaaW.PrintMore
attribute [local go_sem] max2_int min2_int max_two min_two max_three min_three max_four min_four   -- for this text's walks alone
set_option linter.unusedVariables false
set_option linter.unusedSimpArgs false

/-! ### laws_toByteS: function 16 -/
def laws_toByteS.l0 : Nat → List Int → List Int → Int → Option (List Int)
  | 0, _, _, _ => none
  | k + 1, x0, x3, x4 => if x4 < (x0.length : Int) then (if 0 ≤ x4 then (if x4 < (x3.length : Int) then (laws_toByteS.l0 k x0 (x3.set (x4 : Int).toNat (rd x0 x4)) (wrap64 (x4 + 1))) else (none)) else (none)) else (some x3)
def laws_toByteS.f (k : Nat) (l0 : List Int) : Option (List Int) := if 0 ≤ (l0.length : Int) then (if ((l0.length : Int) : Int).toNat ≤ 281474976710656 then (laws_toByteS.l0 k l0 (List.replicate ((l0.length : Int) : Int).toNat 0) 0) else (none)) else (none)
theorem laws_toByteS.mono_l : ∀ k, (∀ y0 y1 y2, LeO (laws_toByteS.l0 k y0 y1 y2) (laws_toByteS.l0 (k + 1) y0 y1 y2))
  | 0 => fun _ _ _ r h => by simp [laws_toByteS.l0] at h
  | k + 1 => by
    have ih0 := laws_toByteS.mono_l k
    · intro y0 y1 y2
      unfold laws_toByteS.l0
      repeat' first
      | (with_reducible exact ih0 _ _ _)
      | (with_reducible exact LeO.refl _)
      | (with_reducible exact LeO.none _)
      | (with_reducible refine LeO.ite ?_ ?_)
      | (with_reducible refine LeO.bind ?_ (fun _ => ?_))
      | exact ih0 _ _ _
      | exact LeO.none _
      | refine LeO.ite ?_ ?_
      | refine LeO.bind ?_ (fun _ => ?_)
theorem laws_toByteS.mono : ∀ a0 k, LeO (laws_toByteS.f k a0) (laws_toByteS.f (k + 1) a0) := by
  intro a0 k
  have ih0 := laws_toByteS.mono_l k
  unfold laws_toByteS.f
  repeat' first
      | (with_reducible exact ih0 _ _ _)
      | (with_reducible exact LeO.refl _)
      | (with_reducible exact LeO.none _)
      | (with_reducible refine LeO.ite ?_ ?_)
      | (with_reducible refine LeO.bind ?_ (fun _ => ?_))
      | exact ih0 _ _ _
      | exact LeO.none _
      | refine LeO.ite ?_ ?_
      | refine LeO.bind ?_ (fun _ => ?_)
set_option maxHeartbeats 8000000 in
set_option maxRecDepth 100000 in
theorem laws_toByteS.calls (k : Nat) (A0 : Option Addr) (c0 : Nat) (l0 : List Int) (r : List Int) (w : World) (hr0 : Kd.C (Kd.int .u8) w A0 l0.length l0) (hc0 : l0.length ≤ c0) (h : laws_toByteS.f k l0 = some r) :
    Calls Try.prog 16 #[.slice A0 l0.length c0] w fun e w' => ∃ v0_ : Value, e = .returned (v0_) ∧ Kd.R (Kd.int .u8) 5 w' w.heap.size (fun _ => True) v0_ r ∧ Below w.heap.size w w' := by
  have HR0 := Aside0.mk hr0
  have HC0 := Aside0.mk hc0
  clear hr0 hc0
  have HB := Aside0.mk (Below.refl w.heap.size w)
  have H : (if 0 ≤ (l0.length : Int) then (if ((l0.length : Int) : Int).toNat ≤ 281474976710656 then (laws_toByteS.l0 k l0 (List.replicate ((l0.length : Int) : Int).toNat 0) 0) else (none)) else (none)) = some r := h
  clear h
  by_cases c2 : 0 ≤ (l0.length : Int)
  · rw [if_pos c2] at H
    have c2b0 := eq_true c2
    have c2b1 : decide (0 ≤ (l0.length : Int)) = true := decide_eq_true c2
    clear c2
    by_cases c3 : ((l0.length : Int) : Int).toNat ≤ 281474976710656
    · rw [if_pos c3] at H
      have c3b0 := eq_true c3
      have c3b1 : decide (((l0.length : Int) : Int).toNat ≤ 281474976710656) = true := decide_eq_true c3
      clear c3
      obtain ⟨y101, hy101⟩ : ∃ y_ : List Int, y_ = (List.replicate ((l0.length : Int) : Int).toNat 0) := ⟨_, rfl⟩
      replace H : (laws_toByteS.l0 k l0 y101 0) = some r := by first | (rw [hy101]; with_reducible exact H) | (have H2_ := (Option.bind_some _ _).symm.trans H; rw [hy101]; with_reducible exact H2_) | (have H2_ := (Option.bind_some _ _).symm.trans H; with_reducible exact H2_) | with_reducible exact H | (rw [hy101]; exact H) | exact H
      have Ny101 := Aside0.mk hy101
      clear hy101
      have H' := Aside0.mk H
      clear H
      go_enter Try.func16, Try.ntmps16
      go_wp2_with (first | ((with_reducible refine gate_dst (N := 7) rfl ?_); refine Kd.R_make (Kd.int .u8) _ 5 rfl (N := 7) rfl 22 _ _ rfl (l0.length : Int) rfl rfl Try.underlying22 (.int .u8 0) 1 info5 rfl (by decide) (by omega) 0 (ok := fun _ => True) (okp := fun _ => True) rfl (fun _ hk => hk) trivial (of_decide_eq_true (by first | (with_reducible assumption) | assumption)) (Nat.le_trans (Nat.mul_le_mul_right _ (of_decide_eq_true (by first | (with_reducible assumption) | assumption) : (l0.length : Int).toNat ≤ 281474976710656)) (by omega)) (Below.refl _ _) (Nat.le_refl _) ?_; intro v102 w4 ho5 hb hg_ hnew_; clear hg_ hnew_; (first | rw [← Ny101.out] at ho5 | (simp only [Int.reduceToNat] at ho5; rw [← Ny101.out] at ho5)); have n0_ := Aside0.mk (Kd.R_lower ho5 (below_size (by repeat (first | (with_reducible first | exact HB.out | apply below_alloc | apply pw_below_drewN | apply below_drew1) | exact HB.out)))); have n1_ := Aside0.mk (below_step (by repeat (first | (with_reducible first | exact HB.out | apply below_alloc | apply pw_below_drewN | apply below_drew1) | exact HB.out)) hb); clear HB; have HO103 := n0_; have HB := n1_; clear n0_ n1_; clear hb ho5))
      go_loopg [4] k (fun kq v4 w' => ∃ (x3_1 : List Int) (x4_1 : Int), v4 = .int .i64 x4_1 ∧ Aside0 (laws_toByteS.l0 kq l0 x3_1 x4_1 = some r) ∧ Aside0 (kq ≤ k) ∧ Aside0 (Kd.R (Kd.int .u8) 5 w' w.heap.size (fun _ => True) v102 x3_1) ∧ Aside0 (Below w.heap.size w w'))
      case atStart => exact ⟨(y101), (0), (by first | rfl | (simp; done) | (simp [*]; done)), H', ⟨Nat.le_refl _⟩, ⟨by (with_reducible repeat (first | apply Kd.R_alloc | apply Kd.R_drewN | apply Kd.R_drew)); exact HO103.out⟩, ⟨by repeat (first | (with_reducible first | exact HB.out | apply below_alloc | apply pw_below_drewN | apply below_drew1) | exact HB.out)⟩⟩
      case round =>
        clear H'
        try clear c1
        try clear c2
        try clear c2b0
        try clear c2b1
        try clear p2
        try clear c3
        try clear c3b0
        try clear c3b1
        obtain ⟨x3_1, x4_1, rfl, HA, HK1, HO_3, HB⟩ := hrel
        cases gk with
        | zero => exact absurd HA.out (by simp [laws_toByteS.l0])
        | succ k1 =>
          have H := HA.out
          clear HA
          simp only [laws_toByteS.l0] at H
          by_cases c6 : x4_1 < (l0.length : Int)
          · rw [if_pos c6] at H
            have c6b0 : decide (x4_1 < (l0.length : Int)) = true := decide_eq_true c6
            clear c6
            by_cases c7 : 0 ≤ x4_1
            · rw [if_pos c7] at H
              have c7b0 : decide (0 ≤ x4_1) = true := decide_eq_true c7
              clear c7
              by_cases c8 : x4_1 < (x3_1.length : Int)
              · rw [if_pos c8] at H
                have c8b0 : decide (x4_1 < (x3_1.length : Int)) = true := decide_eq_true c8
                clear c8
                obtain ⟨y105, hy105⟩ : ∃ y_ : List Int, y_ = (x3_1.set (x4_1 : Int).toNat (rd l0 x4_1)) := ⟨_, rfl⟩
                replace H : (laws_toByteS.l0 k1 l0 y105 (wrap64 (x4_1 + 1))) = some r := by first | (rw [hy105]; with_reducible exact H) | (have H2_ := (Option.bind_some _ _).symm.trans H; rw [hy105]; with_reducible exact H2_) | (have H2_ := (Option.bind_some _ _).symm.trans H; with_reducible exact H2_) | with_reducible exact H | (rw [hy105]; exact H) | exact H
                have Ny105 := Aside0.mk hy105
                clear hy105
                have H' := Aside0.mk H
                clear H
                have p104 : 0 ≤ (x4_1 : Int) := of_decide_eq_true (by first | (with_reducible assumption) | assumption)
                have q104 : x4_1 < (l0.length : Int) := of_decide_eq_true (by first | (with_reducible assumption) | assumption)
                obtain ⟨ad104, e104, hx104_0⟩ := Kd.at_int HR0.out x4_1 p104 q104
                cases e104
                replace hx104_0 := (HB.out.cell (World.block_lt_of_cell? w _ hx104_0)).trans hx104_0
                replace p104 := eq_true p104
                replace q104 := eq_true q104
                have p9 : 0 ≤ (x4_1 : Int) := of_decide_eq_true (by first | (with_reducible assumption) | assumption)
                have q9 : (x4_1 : Int) < ((x3_1.length : Int) : Int) := of_decide_eq_true (by first | (with_reducible assumption) | assumption)
                obtain ⟨go9, co9, eo9, gb9, gl9, cl9, HG9⟩ := Kd.R_form HO_3.out (by omega)
                (first | cases eo9 | (injection eo9 with ea_ en_ ec_; (first | subst ea_ | (injection ea_ with ea_; subst ea_)); subst ec_; clear en_))
                have GB9 := Aside0.mk gb9
                have GG9 := Aside0.mk HG9
                clear gb9 gl9 HG9
                obtain ⟨hx9_0, hf9_0⟩ := Kd.R_celln 0 HO_3.out (x4_1 : Int) p9 q9
                replace p9 := eq_true p9
                replace q9 := eq_true q9
                have HP10 := Kd.R_putg HO_3.out (x4_1 : Int) (rd l0 x4_1)
                go_wp2_with (first | ((with_reducible refine gate_store (t := 5) (p := 20) rfl ?_); refine store_event (t := 5) (p := 20) (v := ?vo_w11) (w1 := (wr.setCell ⟨go9, (x4_1 : Int).toNat, none⟩ (.int .u8 (rd l0 x4_1)))) ?hg ?ho ?hn ?hr ?_; (case ho => rfl); (case hg => rfl); (case hn => rfl); (case hr => first | (go_simp; done) | (go_simp; rfl)); intro w11 hw; have hg : wr.grownBy w11 (some go9) := (by rw [hw]; exact HP10.2); have hp_ : Kd.R (Kd.int .u8) 5 w11 w.heap.size (fun _ => True) (.slice (some ⟨go9, 0, none⟩) x3_1.length co9) y105 := (by rw [hw, Ny105.out]; exact HP10.1); clear HP10; have n0_ := Aside0.mk (hp_); have n1_ := Aside0.mk ((by rw [hw]; exact below_set (HB.out) GB9.out : Below w.heap.size w w11)); clear HO_3; clear HB; have HO_3 := n0_; have HB := n1_; clear n0_ n1_; clear hg hw hp_))
                go_roundg k1
                case measure => have := HK1.out; omega
                case rel => exact ⟨(y105), (wrap64 (x4_1 + 1)), (by first | rfl | (simp; done) | (simp [*]; done)), H', ⟨by have := HK1.out; omega⟩, ⟨by (with_reducible repeat (first | apply Kd.R_alloc | apply Kd.R_drewN | apply Kd.R_drew)); exact HO_3.out⟩, ⟨by repeat (first | (with_reducible first | exact HB.out | apply below_alloc | apply pw_below_drewN | apply below_drew1) | exact HB.out)⟩⟩
              · rw [if_neg c8] at H
                exact absurd H (by simp)
            · rw [if_neg c7] at H
              exact absurd H (by simp)
          · rw [if_neg c6] at H
            have c6b0 : decide (x4_1 < (l0.length : Int)) = false := decide_eq_false c6
            clear c6
            obtain rfl := Option.some.inj H
            go_wp2
            go_ret
            exact ⟨_, by first | rfl | (simp [errW_none, errW_some] <;> rfl) | (simp [*, errW_none, errW_some] <;> rfl), by (with_reducible repeat (first | apply Kd.R_alloc | apply Kd.R_drewN | apply Kd.R_drew)); exact HO_3.out, by repeat (first | (with_reducible first | exact HB.out | apply below_alloc | apply pw_below_drewN | apply below_drew1) | exact HB.out)⟩
    · rw [if_neg c3] at H
      exact absurd H (by simp)
  · rw [if_neg c2] at H
    exact absurd H (by simp)

/-! ### laws_eqByteS: function 18 -/
def laws_eqByteS.l0 : Nat → List Int → List Int → Int → Option (Bool)
  | 0, _, _, _ => none
  | k + 1, x0, x1, x5 => if x5 < (x0.length : Int) then (if 0 ≤ x5 then (if x5 < (x1.length : Int) then (if (rd x0 x5) = (rd x1 x5) then (laws_eqByteS.l0 k x0 x1 (wrap64 (x5 + 1))) else (some false)) else (none)) else (none)) else (some true)
def laws_eqByteS.f (k : Nat) (l0 : List Int) (l1 : List Int) : Option (Bool) := if (l0.length : Int) = (l1.length : Int) then (laws_eqByteS.l0 k l0 l1 0) else (some false)
theorem laws_eqByteS.mono_l : ∀ k, (∀ y0 y1 y2, LeO (laws_eqByteS.l0 k y0 y1 y2) (laws_eqByteS.l0 (k + 1) y0 y1 y2))
  | 0 => fun _ _ _ r h => by simp [laws_eqByteS.l0] at h
  | k + 1 => by
    have ih0 := laws_eqByteS.mono_l k
    · intro y0 y1 y2
      unfold laws_eqByteS.l0
      repeat' first
      | (with_reducible exact ih0 _ _ _)
      | (with_reducible exact LeO.refl _)
      | (with_reducible exact LeO.none _)
      | (with_reducible refine LeO.ite ?_ ?_)
      | (with_reducible refine LeO.bind ?_ (fun _ => ?_))
      | exact ih0 _ _ _
      | exact LeO.none _
      | refine LeO.ite ?_ ?_
      | refine LeO.bind ?_ (fun _ => ?_)
theorem laws_eqByteS.mono : ∀ a0 a1 k, LeO (laws_eqByteS.f k a0 a1) (laws_eqByteS.f (k + 1) a0 a1) := by
  intro a0 a1 k
  have ih0 := laws_eqByteS.mono_l k
  unfold laws_eqByteS.f
  repeat' first
      | (with_reducible exact ih0 _ _ _)
      | (with_reducible exact LeO.refl _)
      | (with_reducible exact LeO.none _)
      | (with_reducible refine LeO.ite ?_ ?_)
      | (with_reducible refine LeO.bind ?_ (fun _ => ?_))
      | exact ih0 _ _ _
      | exact LeO.none _
      | refine LeO.ite ?_ ?_
      | refine LeO.bind ?_ (fun _ => ?_)
set_option maxHeartbeats 8000000 in
set_option maxRecDepth 100000 in
theorem laws_eqByteS.calls (k : Nat) (A0 : Option Addr) (c0 : Nat) (l0 : List Int) (A1 : Option Addr) (c1 : Nat) (l1 : List Int) (r : Bool) (w : World) (hr0 : Kd.C (Kd.int .u8) w A0 l0.length l0) (hc0 : l0.length ≤ c0) (hr1 : Kd.C (Kd.int .u8) w A1 l1.length l1) (hc1 : l1.length ≤ c1) (h : laws_eqByteS.f k l0 l1 = some r) :
    Calls Try.prog 18 #[.slice A0 l0.length c0, .slice A1 l1.length c1] w fun e w' => e = .returned (.bool r) ∧ Drawn0 w w' := by
  have HR0 := Aside0.mk hr0
  have HC0 := Aside0.mk hc0
  clear hr0 hc0
  have HR1 := Aside0.mk hr1
  have HC1 := Aside0.mk hc1
  clear hr1 hc1
  have H : (if (l0.length : Int) = (l1.length : Int) then (laws_eqByteS.l0 k l0 l1 0) else (some false)) = some r := h
  clear h
  by_cases c3 : (l0.length : Int) = (l1.length : Int)
  · rw [if_pos c3] at H
    have c3b0 : ((l0.length : Int) == (l1.length : Int)) = true := beq_iff_eq.mpr c3
    have c3b1 : ((l0.length : Int) != (l1.length : Int)) = false := bne_eq_false_iff_eq.mpr c3
    have c3b2 : (l0.length == l1.length) = true := by first | simpa using c3 | (simp at c3 ⊢; omega)
    clear c3
    have H' := Aside0.mk H
    clear H
    go_enter Try.func18, Try.ntmps18
    go_wp2
    repeat (go_quiet (fail); try go_wp2)
    go_loopg [5] k (fun kq v5 w' => ∃ (x5_1 : Int), v5 = .int .i64 x5_1 ∧ Aside0 (laws_eqByteS.l0 kq l0 l1 x5_1 = some r) ∧ Aside0 (kq ≤ k) ∧ Drawn0 w w')
    case atStart => exact ⟨(0), (by first | rfl | (simp; done) | (simp [*]; done)), H', ⟨Nat.le_refl _⟩, by repeat (first | exact Drawn0.refl _ | apply Drawn0.step)⟩
    case round =>
      clear H'
      try clear c1
      try clear p2
      try clear c3
      try clear c3b0
      try clear c3b1
      try clear c3b2
      obtain ⟨x5_1, rfl, HA, HK1, ⟨m1, rfl⟩⟩ := hrel
      cases gk with
      | zero => exact absurd HA.out (by simp [laws_eqByteS.l0])
      | succ k1 =>
        have H := HA.out
        clear HA
        simp only [laws_eqByteS.l0] at H
        by_cases c4 : x5_1 < (l0.length : Int)
        · rw [if_pos c4] at H
          have c4b0 : decide (x5_1 < (l0.length : Int)) = true := decide_eq_true c4
          clear c4
          by_cases c5 : 0 ≤ x5_1
          · rw [if_pos c5] at H
            have c5b0 : decide (0 ≤ x5_1) = true := decide_eq_true c5
            clear c5
            by_cases c6 : x5_1 < (l1.length : Int)
            · rw [if_pos c6] at H
              have c6b0 : decide (x5_1 < (l1.length : Int)) = true := decide_eq_true c6
              clear c6
              by_cases c7 : (rd l0 x5_1) = (rd l1 x5_1)
              · rw [if_pos c7] at H
                have c7b0 : ((rd l0 x5_1) == (rd l1 x5_1)) = true := beq_iff_eq.mpr c7
                have c7b1 : ((rd l0 x5_1) != (rd l1 x5_1)) = false := bne_eq_false_iff_eq.mpr c7
                clear c7
                have H' := Aside0.mk H
                clear H
                have p106 : 0 ≤ (x5_1 : Int) := of_decide_eq_true (by first | (with_reducible assumption) | assumption)
                have q106 : x5_1 < (l0.length : Int) := of_decide_eq_true (by first | (with_reducible assumption) | assumption)
                obtain ⟨ad106, e106, hx106_0⟩ := Kd.at_int HR0.out x5_1 p106 q106
                cases e106
                replace p106 := eq_true p106
                replace q106 := eq_true q106
                have p107 : 0 ≤ (x5_1 : Int) := of_decide_eq_true (by first | (with_reducible assumption) | assumption)
                have q107 : x5_1 < (l1.length : Int) := of_decide_eq_true (by first | (with_reducible assumption) | assumption)
                obtain ⟨ad107, e107, hx107_0⟩ := Kd.at_int HR1.out x5_1 p107 q107
                cases e107
                replace p107 := eq_true p107
                replace q107 := eq_true q107
                go_wp2
                repeat (go_quiet (fail); try go_wp2)
                go_roundg k1
                case measure => have := HK1.out; omega
                case rel => exact ⟨(wrap64 (x5_1 + 1)), (by first | rfl | (simp; done) | (simp [*]; done)), H', ⟨by have := HK1.out; omega⟩, by repeat (first | exact Drawn0.refl _ | apply Drawn0.step)⟩
              · rw [if_neg c7] at H
                have c7b0 : ((rd l0 x5_1) == (rd l1 x5_1)) = false := beq_eq_false_iff_ne.mpr c7
                have c7b1 : ((rd l0 x5_1) != (rd l1 x5_1)) = true := bne_iff_ne.mpr c7
                obtain rfl := Option.some.inj H
                have p106 : 0 ≤ (x5_1 : Int) := of_decide_eq_true (by first | (with_reducible assumption) | assumption)
                have q106 : x5_1 < (l0.length : Int) := of_decide_eq_true (by first | (with_reducible assumption) | assumption)
                obtain ⟨ad106, e106, hx106_0⟩ := Kd.at_int HR0.out x5_1 p106 q106
                cases e106
                replace p106 := eq_true p106
                replace q106 := eq_true q106
                have p107 : 0 ≤ (x5_1 : Int) := of_decide_eq_true (by first | (with_reducible assumption) | assumption)
                have q107 : x5_1 < (l1.length : Int) := of_decide_eq_true (by first | (with_reducible assumption) | assumption)
                obtain ⟨ad107, e107, hx107_0⟩ := Kd.at_int HR1.out x5_1 p107 q107
                cases e107
                replace p107 := eq_true p107
                replace q107 := eq_true q107
                go_wp2
                repeat (go_quiet (fail); try go_wp2)
                go_ret
                exact ⟨by first | rfl | (simp; done) | (simp [*]; done), by repeat (first | exact Drawn0.refl _ | apply Drawn0.step)⟩
            · rw [if_neg c6] at H
              exact absurd H (by simp)
          · rw [if_neg c5] at H
            exact absurd H (by simp)
        · rw [if_neg c4] at H
          have c4b0 : decide (x5_1 < (l0.length : Int)) = false := decide_eq_false c4
          clear c4
          obtain rfl := Option.some.inj H
          go_wp2
          repeat (go_quiet (fail); try go_wp2)
          go_ret
          exact ⟨by first | rfl | (simp; done) | (simp [*]; done), by repeat (first | exact Drawn0.refl _ | apply Drawn0.step)⟩
  · rw [if_neg c3] at H
    have c3b0 : ((l0.length : Int) == (l1.length : Int)) = false := beq_eq_false_iff_ne.mpr c3
    have c3b1 : ((l0.length : Int) != (l1.length : Int)) = true := bne_iff_ne.mpr c3
    have c3b2 : (l0.length == l1.length) = false := by first | simpa using c3 | (simp at c3 ⊢; omega)
    obtain rfl := Option.some.inj H
    go_enter Try.func18, Try.ntmps18
    go_wp2
    repeat (go_quiet (fail); try go_wp2)
    go_ret
    exact ⟨by first | rfl | (simp; done) | (simp [*]; done), by repeat (first | exact Drawn0.refl _ | apply Drawn0.step)⟩

/-! ### spec_l05Carry: function 81 -/
set_option maxHeartbeats 400000 in
set_option maxRecDepth 100000 in
theorem spec_l05Carry.calls (xs : List Int) (w : World) (hb : Bd xs) (hl : xs.length = 16) :
    Calls Try.prog 81 #[.agg (arr .i64 xs)] w fun e w' => e = .returned (.agg (arr .i64 (carN xs 3))) ∧ Below w.heap.size w w' := by
  have HB := Aside0.mk hb
  have HL := Aside0.mk hl
  clear hb hl
  go_enter Try.func81, Try.ntmps81
  go_wp2
  go_loopg [3, 4, 5, 6] 3 (fun gg v3 _ _ _ wr => ∃ n : Nat, n ≤ 3 ∧ 3 - n ≤ gg ∧ v3 = .int .i64 n ∧ Aside0 (St w [⟨40, .i64, carN xs n⟩, ⟨40, .i64, z16⟩] wr))
  case atStart =>
    exact ⟨0, by omega, by omega, rfl, ⟨((St.start w).push rfl 40 .i64 xs).push (World.size_alloc ..) 40 .i64 z16⟩⟩
  case round =>
    obtain ⟨n, hn, hg, rfl, S⟩ := hrel
    by_cases hlt : n < 3
    · have hlti : (n : Int) < 3 := by omega
      have hbd := carN_bd xs HB.out HL.out n
      have EN := Aside0.mk (show carN xs (n + 1) = carR (carN xs n) from rfl)
      generalize carN xs n = ys at *
      have YB := Aside0.mk hbd.1
      have YL := Aside0.mk hbd.2
      clear hbd
      go_wp2
      go_loopg [4, 5, 6] 16 (fun gg2 v4 v5 _ wr2 => ∃ k : Nat, k ≤ 16 ∧ 16 - k ≤ gg2 ∧ v5 = .int .i64 k ∧ v4 = .int .i64 (carS ys k).2 ∧ Aside0 (St w [⟨40, .i64, (carS ys k).1⟩, ⟨40, .i64, z16⟩] wr2))
      case atStart => exact ⟨0, by omega, by omega, rfl, rfl, S⟩
      case round =>
        obtain ⟨k, hk, hg2, rfl, rfl, S2⟩ := hrel
        have hcb := carS_bd ys YB.out k
        have hkb := hcb.1 k
        by_cases hlt2 : k < 16
        · have hlti2 : (k : Int) < 16 := by omega
          have hc1 := S2.out.cell 0 rfl k (by have := YL.out; rw [carS_length]; omega)
          have hf1 := blk_frozen (S2.out.blk 0 rfl) k
          rw [Nat.add_zero] at hc1 hf1
          have P := Aside0.mk (S2.out.set 0 rfl k (((carS ys k).1.getD k 0 + (carS ys k).2) - ((carS ys k).1.getD k 0 + (carS ys k).2) / 65536 * 65536))
          have EQ := Aside0.mk (show carS ys (k + 1) = ((carS ys k).1.set k (((carS ys k).1.getD k 0 + (carS ys k).2) - ((carS ys k).1.getD k 0 + (carS ys k).2) / 65536 * 65536), ((carS ys k).1.getD k 0 + (carS ys k).2) / 65536) from rfl)
          have a1 := hkb.1
          have a2 := hkb.2
          have a3 := hcb.2.1
          have a4 := hcb.2.2
          clear hcb hkb
          generalize (carS ys k).1.getD k 0 = a at *
          generalize (carS ys k).2 = c at *
          have b1 : -4503737066323969 ≤ a + c := by omega
          have b2 : a + c ≤ 4503737066323969 := by omega
          have q1 : -68721573900 ≤ (a + c) / 65536 := by omega
          have q2 : (a + c) / 65536 ≤ 68721573900 := by omega
          go_wp2
          go_roundg (16 - (k + 1))
          case measure => omega
          case rel => refine ⟨k + 1, by omega, by omega, by go_num, ?_, by rw [EQ.out]; exact P⟩; rw [EQ.out]
        · obtain rfl : k = 16 := by omega
          have hneg : ¬ ((16 : Nat) : Int) < 16 := by omega
          have h0 := hcb.1 0
          have hc1 := S2.out.cell 0 rfl 0 (by have := YL.out; rw [carS_length]; omega)
          have hf1 := blk_frozen (S2.out.blk 0 rfl) 0
          rw [Nat.add_zero] at hc1 hf1
          have P := Aside0.mk (S2.out.set 0 rfl 0 ((carS ys 16).1.getD 0 0 + 38 * (carS ys 16).2))
          have EQ := Aside0.mk (show carR ys = (carS ys 16).1.set 0 ((carS ys 16).1.getD 0 0 + 38 * (carS ys 16).2) from rfl)
          have a1 := h0.1
          have a2 := h0.2
          have a3 := hcb.2.1
          have a4 := hcb.2.2
          clear hcb hkb h0
          generalize (carS ys 16).1.getD 0 0 = a at *
          generalize (carS ys 16).2 = c at *
          go_wp2
          go_roundg (3 - (n + 1))
          case measure => omega
          case rel => exact ⟨n + 1, by omega, by omega, by go_num, by rw [EN.out, EQ.out]; exact P⟩
    · obtain rfl : n = 3 := by omega
      have hneg : ¬ ((3 : Nat) : Int) < 3 := by omega
      have B0 := Aside0.mk (S.out.blk 0 rfl)
      have B1 := Aside0.mk (S.out.blk 1 rfl)
      have L := Aside0.mk (carN_bd xs HB.out HL.out 3).2
      go_wp2_with (first
        | ((with_reducible refine gate_dst (N := 34) rfl ?_); refine ld_arr rfl 40 (.tmp 1) rfl w.heap.size rfl B0.out Try.underlying40 (m := 16) (by kernel_rfl) L.out ?_)
        | (refine st_arr rfl 40 (.tmp 2) (.tmp 34) rfl (w.heap.size + 1) (xs := carN xs 3) rfl rfl B1.out (m := 16) (by kernel_rfl) L.out (by rw [L.out]; rfl) ?_; intro w' h1 h2 h4 h3; have H1 := Aside0.mk h1; have H3 := Aside0.mk h3; clear h1 h2 h3 h4))
      exact bodyPost_ret (results_cell_row Try.results81 _ _ (w.heap.size + 1) 40 _ (0, 0) _ rfl H1.out Try.underlying40 rfl (by rw [arr_size, L.out]; kernel_rfl)) rfl ⟨rfl, H3.out _ _ S.out.below (by omega)⟩


/-! ### spec_l05Least: function 80 -/
set_option maxHeartbeats 4000000 in
set_option maxRecDepth 100000 in
theorem spec_l05Least.calls (xs : List Int) (w : World) (hb : Bd xs) (hl : xs.length = 16) :
    Calls Try.prog 80 #[.agg (arr .i64 xs)] w fun e w' => e = .returned (.agg (arr .i64 (lstN xs 2))) ∧ Below w.heap.size w w' := by
  have HB := Aside0.mk hb
  have HL := Aside0.mk hl
  have S0 := Aside0.mk (((St.start w).push rfl 40 .i64 xs).push (World.size_alloc ..) 40 .i64 z16)
  have LC := Aside0.mk (carN_bd xs hb hl 3).2
  clear hb hl
  go_enter Try.func80, Try.ntmps80
  go_wp2_with (first
    | ((with_reducible refine gate_dst (N := 8) rfl ?_); refine ld_arr rfl 40 (.tmp 1) rfl w.heap.size rfl (S0.out.blk 0 rfl) Try.underlying40 (m := 16) (by kernel_rfl) HL.out ?_)
    | ((with_reducible refine (spec_l05Carry.calls xs _ HB.out HL.out).mono ?_); rintro e w1 ⟨rfl, hb⟩; have S1 := Aside0.mk (S0.out.step hb); clear hb S0)
    | (refine st_arr rfl 40 (.tmp 1) (.tmp 9) rfl w.heap.size (xs := carN xs 3) rfl rfl (S1.out.blk 0 rfl) (m := 16) (by kernel_rfl) LC.out (by rw [LC.out, HL.out]) ?_; intro w2 h1 h2 h4 h3; have S2 := Aside0.mk (S1.out.row 0 rfl h1 h2 h3); clear h1 h2 h3 h4 S1))
  go_loopg [3, 4, 5, 6, 7] 2 (fun gg v3 _ _ _ _ wr => ∃ n : Nat, n ≤ 2 ∧ 2 - n ≤ gg ∧ v3 = .int .i64 n ∧ Aside0 (St w [⟨40, .i64, lstN xs n⟩, ⟨40, .i64, z16⟩] wr))
  case atStart => exact ⟨0, by omega, by omega, rfl, S2⟩
  case round =>
    obtain ⟨n, hn, hg, rfl, S⟩ := hrel
    obtain ⟨W0, e0⟩ : ∃ W0, W0 = wr := ⟨_, rfl⟩
    subst e0
    by_cases hlt : n < 2
    · have hlti : (n : Int) < 2 := by omega
      have hbs := lstN_bs xs HB.out HL.out n
      have EN := Aside0.mk (show lstN xs (n + 1) = lstR (lstN xs n) from rfl)
      generalize lstN xs n = ys at *
      have YL := Aside0.mk hbs.2
      have ZB := Aside0.mk (lstB_bd ys hbs.1 hbs.2)
      have y1 := (hbs.1 0).1
      have y2 := (hbs.1 0).2
      have EB := Aside0.mk (show lstB ys = ys.set 0 (ys.getD 0 0 + 19) from rfl)
      have ER := Aside0.mk (show lstR ys = (if 32768 ≤ (carS (lstB ys) 16).1.getD 15 0 ∨ 0 < (carS (lstB ys) 16).2 then
    (if 0 < (carS (lstB ys) 16).2 then ((carS (lstB ys) 16).1.set 15 ((carS (lstB ys) 16).1.getD 15 0 - 32768)).set 15 ((carS (lstB ys) 16).1.getD 15 0 - 32768 + 65536) else (carS (lstB ys) 16).1.set 15 ((carS (lstB ys) 16).1.getD 15 0 - 32768))
  else ys) from rfl)
      clear hbs
      obtain ⟨y, hy⟩ : ∃ y, y = ys.getD 0 0 := ⟨_, rfl⟩
      rw [← hy] at y1 y2 EB
      have HY := Aside0.mk hy
      clear hy
      have SZ := Aside0.mk S.out.size
      go_wp2_with (first
        | ((with_reducible refine gate_dst (N := 14) rfl ?_); refine ld_arr rfl 40 (.tmp 1) rfl w.heap.size rfl (S.out.blk 0 rfl) Try.underlying40 (m := 16) (by kernel_rfl) YL.out ?_)
        | (refine st_arr rfl 40 (.tmp 4) (.tmp 14) rfl W0.heap.size (xs := ys) rfl rfl (blk_new W0 (.cells (arr .i64 z16) 40)) (m := 16) (by kernel_rfl) YL.out (by rw [YL.out]; rfl) ?_; intro w2 h1 h2 h4 h3; have S2 := Aside0.mk (St.other (S.out.alloc (.cells (arr .i64 z16) 40)) h2 h3 (by exact SZ.out)); have G := Aside0.mk h1; have hc1 := blk_get h1 0 (by rw [YL.out]; omega); rw [← HY.out] at hc1; have hf1 := blk_frozen h1 0; have S3 := Aside0.mk (S2.out.far W0.heap.size SZ.out 0 (.int .i64 (y + 19))); have G3 := Aside0.mk (blk_upd h1 0 (y + 19)); clear h1 h2 h3 h4 S2 G))
      have zb := ZB.out
      generalize lstB ys = zs at *
      go_loopg [5, 6, 7] 16 (fun gg2 v5 v6 _ wr2 => ∃ k : Nat, k ≤ 16 ∧ 16 - k ≤ gg2 ∧ v6 = .int .i64 k ∧ v5 = .int .i64 (carS zs k).2 ∧ Aside0 (St w [⟨40, .i64, ys⟩, ⟨40, .i64, z16⟩] wr2) ∧ Aside0 (wr2.heap[W0.heap.size]? = some (.cells (arr .i64 (carS zs k).1) 40 (0, 0))))
      case atStart => exact ⟨0, by omega, by omega, rfl, rfl, S3, by have := G3.out; rw [← EB.out] at this; exact ⟨this⟩⟩
      case round =>
        obtain ⟨k, hk, hg2, rfl, rfl, S4, G4⟩ := hrel
        have hcb := carS_bd zs zb.1 k
        have hkb := hcb.1 k
        by_cases hlt2 : k < 16
        · have hlti2 : (k : Int) < 16 := by omega
          have hc1 := blk_get G4.out k (by rw [carS_length, zb.2]; omega)
          have hf1 := blk_frozen G4.out k
          have P := Aside0.mk (S4.out.far W0.heap.size SZ.out k (.int .i64 (((carS zs k).1.getD k 0 + (carS zs k).2) - ((carS zs k).1.getD k 0 + (carS zs k).2) / 65536 * 65536)))
          have PG := Aside0.mk (blk_upd G4.out k (((carS zs k).1.getD k 0 + (carS zs k).2) - ((carS zs k).1.getD k 0 + (carS zs k).2) / 65536 * 65536))
          have EQ := Aside0.mk (show carS zs (k + 1) = ((carS zs k).1.set k (((carS zs k).1.getD k 0 + (carS zs k).2) - ((carS zs k).1.getD k 0 + (carS zs k).2) / 65536 * 65536), ((carS zs k).1.getD k 0 + (carS zs k).2) / 65536) from rfl)
          have a1 := hkb.1
          have a2 := hkb.2
          have a3 := hcb.2.1
          have a4 := hcb.2.2
          clear hcb hkb zb
          generalize (carS zs k).1.getD k 0 = a at *
          generalize (carS zs k).2 = c at *
          have b1 : -4503737066323969 ≤ a + c := by omega
          have b2 : a + c ≤ 4503737066323969 := by omega
          have q1 : -68721573900 ≤ (a + c) / 65536 := by omega
          have q2 : (a + c) / 65536 ≤ 68721573900 := by omega
          go_wp2
          go_roundg (16 - (k + 1))
          case measure => omega
          case rel => refine ⟨k + 1, by omega, by omega, by go_num, ?_, P, by rw [EQ.out]; exact PG⟩; rw [EQ.out]
        · obtain rfl : k = 16 := by omega
          have hneg : ¬ ((16 : Nat) : Int) < 16 := by omega
          have hlo := carS_lo zs zb.2 16 (by omega) 15 (by omega)
          have hc1 := blk_get G4.out 15 (by rw [carS_length, zb.2]; omega)
          have hf1 := blk_frozen G4.out 15
          have L := Aside0.mk (show (carS zs 16).1.length = 16 by rw [carS_length, zb.2])
          have a1 := hlo.1
          have a2 := hlo.2
          clear hcb hkb hlo zb
          generalize carS zs 16 = p at *
          obtain ⟨ps, c⟩ := p
          simp only at *
          have P1 := Aside0.mk (S4.out.far W0.heap.size SZ.out 15 (.int .i64 (ps.getD 15 0 - 32768)))
          have Q1 := Aside0.mk (blk_upd G4.out 15 (ps.getD 15 0 - 32768))
          have P2 := Aside0.mk (P1.out.far W0.heap.size SZ.out 15 (.int .i64 (ps.getD 15 0 - 32768 + 65536)))
          have Q2 := Aside0.mk (blk_upd Q1.out 15 (ps.getD 15 0 - 32768 + 65536))
          have L1 := Aside0.mk (show (ps.set 15 (ps.getD 15 0 - 32768)).length = 16 by rw [List.length_set, L.out])
          have L2 := Aside0.mk (show ((ps.set 15 (ps.getD 15 0 - 32768)).set 15 (ps.getD 15 0 - 32768 + 65536)).length = 16 by rw [List.length_set, List.length_set, L.out])
          generalize ps.getD 15 0 = a at *
          by_cases c0 : 0 < c
          · have E2 := Aside0.mk (ER.out.trans (by rw [if_pos (Or.inr c0), if_pos c0]))
            by_cases c1 : 32768 ≤ a
            all_goals
              go_wp2_with (first
                | ((with_reducible refine gate_dst (N := 53) rfl ?_); refine ld_arr rfl 40 (.tmp 4) rfl W0.heap.size rfl Q2.out Try.underlying40 (m := 16) (by kernel_rfl) L2.out ?_)
                | (refine st_arr rfl 40 (.tmp 1) (.tmp 53) rfl w.heap.size (xs := (ps.set 15 (a - 32768)).set 15 (a - 32768 + 65536)) rfl rfl (P2.out.blk 0 rfl) (m := 16) (by kernel_rfl) L2.out (by rw [YL.out, L2.out]) ?_; intro w2 h1 h2 h4 h3; have S5 := Aside0.mk (P2.out.row 0 rfl h1 h2 h3); clear h1 h2 h3 h4))
              go_roundg (2 - (n + 1))
              case measure => omega
              case rel => exact ⟨n + 1, by omega, by omega, by go_num, by rw [EN.out, E2.out]; exact S5⟩
          · by_cases c1 : 32768 ≤ a
            · have E2 := Aside0.mk (ER.out.trans (by rw [if_pos (Or.inl c1), if_neg c0]))
              go_wp2_with (first
                | ((with_reducible refine gate_dst (N := 53) rfl ?_); refine ld_arr rfl 40 (.tmp 4) rfl W0.heap.size rfl Q1.out Try.underlying40 (m := 16) (by kernel_rfl) L1.out ?_)
                | (refine st_arr rfl 40 (.tmp 1) (.tmp 53) rfl w.heap.size (xs := ps.set 15 (a - 32768)) rfl rfl (P1.out.blk 0 rfl) (m := 16) (by kernel_rfl) L1.out (by rw [YL.out, L1.out]) ?_; intro w2 h1 h2 h4 h3; have S5 := Aside0.mk (P1.out.row 0 rfl h1 h2 h3); clear h1 h2 h3 h4))
              go_roundg (2 - (n + 1))
              case measure => omega
              case rel => exact ⟨n + 1, by omega, by omega, by go_num, by rw [EN.out, E2.out]; exact S5⟩
            · have E2 := Aside0.mk (ER.out.trans (by rw [if_neg (by omega)]))
              go_wp2
              go_roundg (2 - (n + 1))
              case measure => omega
              case rel => exact ⟨n + 1, by omega, by omega, by go_num, by rw [EN.out, E2.out]; exact S4⟩
    · obtain rfl : n = 2 := by omega
      have hneg : ¬ ((2 : Nat) : Int) < 2 := by omega
      have B0 := Aside0.mk (S.out.blk 0 rfl)
      have B1 := Aside0.mk (S.out.blk 1 rfl)
      have L := Aside0.mk (lstN_bs xs HB.out HL.out 2).2
      go_wp2_with (first
        | ((with_reducible refine gate_dst (N := 54) rfl ?_); refine ld_arr rfl 40 (.tmp 1) rfl w.heap.size rfl B0.out Try.underlying40 (m := 16) (by kernel_rfl) L.out ?_)
        | (refine st_arr rfl 40 (.tmp 2) (.tmp 54) rfl (w.heap.size + 1) (xs := lstN xs 2) rfl rfl B1.out (m := 16) (by kernel_rfl) L.out (by rw [L.out]; rfl) ?_; intro w' h1 h2 h4 h3; have H1 := Aside0.mk h1; have H3 := Aside0.mk h3; clear h1 h2 h3 h4))
      exact bodyPost_ret (results_cell_row Try.results80 _ _ (w.heap.size + 1) 40 _ (0, 0) _ rfl H1.out Try.underlying40 rfl (by rw [arr_size, L.out]; kernel_rfl)) rfl ⟨rfl, H3.out _ _ S.out.below (by omega)⟩


/-! ### spec_l05Bytes: function 46 -/
set_option maxHeartbeats 4000000 in
set_option maxRecDepth 100000 in
theorem spec_l05Bytes.calls (xs : List Int) (w : World) (hb : Bd xs) (hl : xs.length = 16) (ho : Ok 65536 (lstN xs 2)) :
    Calls Try.prog 46 #[.agg (arr .i64 xs)] w fun e w' => ∃ v0_ : Value, e = .returned (v0_) ∧ Kd.R (Kd.int .u8) 5 w' w.heap.size (fun _ => True) v0_ (bysS (lstN xs 2) 16) ∧ Below w.heap.size w w' := by
  have HL := Aside0.mk hl
  have S0 := Aside0.mk ((St.start w).push rfl 40 .i64 xs)
  have lc := (lstN_bs xs hb hl 2).2
  have hc := fun W => spec_l05Least.calls xs W hb hl
  clear hb hl
  generalize lstN xs 2 = ys at *
  have LC := Aside0.mk lc
  have HO := Aside0.mk ho
  have HC := Aside0.mk hc
  clear lc hc ho
  go_enter Try.func46, Try.ntmps46
  go_wp2_with (first
    | ((with_reducible refine gate_dst (N := 5) rfl ?_); refine ld_arr rfl 40 (.tmp 1) rfl w.heap.size rfl (S0.out.blk 0 rfl) Try.underlying40 (m := 16) (by kernel_rfl) HL.out ?_)
    | ((with_reducible refine (HC.out _).mono ?_); rintro e w1 ⟨rfl, hb⟩; have S1 := Aside0.mk (S0.out.step hb); clear hb S0)
    | (refine st_arr rfl 40 (.tmp 1) (.tmp 6) rfl w.heap.size (xs := ys) rfl rfl (S1.out.blk 0 rfl) (m := 16) (by kernel_rfl) LC.out (by rw [LC.out, HL.out]) ?_; intro w2 h1 h2 h4 h3; have S2 := Aside0.mk (S1.out.row 0 rfl h1 h2 h3); clear h1 h2 h3 h4 S1))
  go_loopg [3, 4] 16 (fun gg v3 v4 wr => ∃ k : Nat, k ≤ 16 ∧ 16 - k ≤ gg ∧ v4 = .int .i64 k ∧ Aside0 (St w [⟨40, .i64, ys⟩] wr) ∧ Aside0 (Kd.R (Kd.int .u8) 5 wr (w.heap.size + 1) (fun _ => True) v3 (bysS ys k)))
  case atStart =>
    exact ⟨0, by omega, by omega, rfl, ⟨S2.out.alloc _⟩, ⟨R_fresh _ _ _ S2.out.size⟩⟩
  case round =>
    obtain ⟨k, hk, hg, rfl, S, HV⟩ := hrel
    obtain ⟨Av, cv, ev⟩ := Kd.R_slice HV.out
    rw [bysS_length] at ev
    subst ev
    by_cases hlt : k < 16
    · have hlti : (k : Int) < 16 := by omega
      have hc1 := S.out.cell 0 rfl k (by rw [LC.out]; omega)
      rw [Nat.add_zero] at hc1
      have ha := getD_range HO.out k (by rw [LC.out]; omega)
      have a0 := ha.1
      have a1 : ys.getD k 0 < 65536 := ha.2
      have HL2 := Aside0.mk (bysS_length ys k)
      have BW := Aside0.mk (Below.refl (w.heap.size + 1) wr)
      have SZ := Aside0.mk S.out.size
      have eq : bysS ys (k + 1) = bysS ys k ++ [ys.getD k 0 % 256, ys.getD k 0 / 256] := rfl
      clear ha
      generalize ys.getD k 0 = a at *
      rw [← show IntKind.u8.wrap (a.tmod 256) = a % 256 from by rw [Int.tmod_eq_emod_of_nonneg a0, IntKind.wrap_u8]; omega, ← show IntKind.u8.wrap (wrap64 (a.tdiv 256)) = a / 256 from by rw [Int.tdiv_eq_ediv_of_nonneg a0, show wrap64 (a / 256) = a / 256 from by unfold wrap64; omega, IntKind.wrap_u8]; omega] at eq
      have EQ := Aside0.mk eq
      clear eq
      obtain ⟨W0, e0⟩ : ∃ W0, W0 = wr := ⟨_, rfl⟩
      subst e0
      have BWD := Aside0.mk (below_drew BW.out)
      have SZD := Aside0.mk (show w.heap.size + 1 ≤ W0.drew.heap.size from Nat.le_trans SZ.out (below_drew BW.out).size)
      --REG
      go_wp2
      refine start_ (n := 14) (S := fun w' => w'.cell? ⟨w.heap.size, k, none⟩ = some (.int .i64 a)) (ds := [11, 12]) #[false, false, false, false, false, false, false, false, false, false, false, false, false, false] (by kernel_rfl) rfl rfl (hc1) (fun hHeld => ?_)
      refine pure_ (i := 0) (N := some 12) (v := ?_) (a' := ?_) #[true, false, false, false, false, false, false, false, false, false, false, false, false, false] rfl rfl (by kernel_rfl) (fun _ _ _ h => h) (Or.inl ⟨by rfl, ?_⟩) ?_ ?_
      rotate_left
      · intro w'
        go_simp
        with_reducible rfl
      rotate_left
      · simp only [Act.put, List.setIfInBounds_toArray, List.set_cons_zero, List.set_cons_succ, i64_w, i32_w]
        rfl
      refine pure_ (i := 1) (N := some 13) (v := ?_) (a' := ?_) #[true, true, false, false, false, false, false, false, false, false, false, false, false, false] rfl rfl (by kernel_rfl) (fun _ _ _ h => h) (Or.inl ⟨by rfl, ?_⟩) ?_ ?_
      rotate_left
      · intro w'
        go_simp
        with_reducible rfl
      rotate_left
      · simp only [Act.put, List.setIfInBounds_toArray, List.set_cons_zero, List.set_cons_succ, i64_w, i32_w]
        rfl
      refine pure_ (i := 2) (N := some 14) (v := ?_) (a' := ?_) #[true, true, true, false, false, false, false, false, false, false, false, false, false, false] rfl rfl (by kernel_rfl) (fun _ _ _ h => h) (Or.inl ⟨by rfl, ?_⟩) ?_ ?_
      rotate_left
      · intro w'
        go_simp
        with_reducible rfl
      rotate_left
      · simp only [Act.put, List.setIfInBounds_toArray, List.set_cons_zero, List.set_cons_succ, i64_w, i32_w]
        rfl
      refine pure_ (i := 6) (N := some 18) (v := ?_) (a' := ?_) #[true, true, true, false, false, false, true, false, false, false, false, false, false, false] rfl rfl (by kernel_rfl) (fun _ _ _ h => h) (Or.inl ⟨by rfl, ?_⟩) ?_ ?_
      rotate_left
      · intro w'
        go_simp
        with_reducible rfl
      rotate_left
      · simp only [Act.put, List.setIfInBounds_toArray, List.set_cons_zero, List.set_cons_succ, i64_w, i32_w]
        rfl
      refine pure_ (i := 7) (N := some 19) (v := ?_) (a' := ?_) #[true, true, true, false, false, false, true, true, false, false, false, false, false, false] rfl rfl (by kernel_rfl) (fun _ _ _ h => h) (Or.inl ⟨by rfl, ?_⟩) ?_ ?_
      rotate_left
      · intro w'
        go_simp
        with_reducible rfl
      rotate_left
      · simp only [Act.put, List.setIfInBounds_toArray, List.set_cons_zero, List.set_cons_succ, i64_w, i32_w]
        rfl
      refine take_ (i := 3) (N := some 15) (v := ?_) (a' := ?_) #[true, true, true, true, false, false, true, true, false, false, false, false, false, false] rfl rfl (by kernel_rfl) (fun _ _ _ h => h) (Or.inl ⟨by rfl, ?_⟩) hHeld ?_ ?_
      rotate_left
      · intro w' s0
        go_simp
        with_reducible rfl
      rotate_left
      · simp only [Act.put, List.setIfInBounds_toArray, List.set_cons_zero, List.set_cons_succ, i64_w, i32_w]
        rfl
      refine pure_ (i := 4) (N := some 16) (v := ?_) (a' := ?_) #[true, true, true, true, true, false, true, true, false, false, false, false, false, false] rfl rfl (by kernel_rfl) (fun _ _ _ h => h) (Or.inl ⟨by rfl, ?_⟩) ?_ ?_
      rotate_left
      · intro w'
        go_simp
        with_reducible rfl
      rotate_left
      · simp only [Act.put, List.setIfInBounds_toArray, List.set_cons_zero, List.set_cons_succ, i64_w, i32_w]
        rfl
      refine pure_ (i := 5) (N := some 17) (v := ?_) (a' := ?_) #[true, true, true, true, true, true, true, true, false, false, false, false, false, false] rfl rfl (by kernel_rfl) (fun _ _ _ h => h) (Or.inl ⟨by rfl, ?_⟩) ?_ ?_
      rotate_left
      · intro w'
        go_simp
        with_reducible rfl
      rotate_left
      · simp only [Act.put, List.setIfInBounds_toArray, List.set_cons_zero, List.set_cons_succ, i64_w, i32_w]
        rfl
      refine take_ (i := 8) (N := some 20) (v := ?_) (a' := ?_) #[true, true, true, true, true, true, true, true, true, false, false, false, false, false] rfl rfl (by kernel_rfl) (fun _ _ _ h => h) (Or.inl ⟨by rfl, ?_⟩) hHeld ?_ ?_
      rotate_left
      · intro w' s0
        go_simp
        with_reducible rfl
      rotate_left
      · simp only [Act.put, List.setIfInBounds_toArray, List.set_cons_zero, List.set_cons_succ, i64_w, i32_w]
        rfl
      refine pure_ (i := 9) (N := some 21) (v := ?_) (a' := ?_) #[true, true, true, true, true, true, true, true, true, true, false, false, false, false] rfl rfl (by kernel_rfl) (fun _ _ _ h => h) (Or.inl ⟨by rfl, ?_⟩) ?_ ?_
      rotate_left
      · intro w'
        go_simp
        with_reducible rfl
      rotate_left
      · simp only [Act.put, List.setIfInBounds_toArray, List.set_cons_zero, List.set_cons_succ, i64_w, i32_w]
        rfl
      refine pure_ (i := 10) (N := some 22) (v := ?_) (a' := ?_) #[true, true, true, true, true, true, true, true, true, true, true, false, false, false] rfl rfl (by kernel_rfl) (fun _ _ _ h => h) (Or.inl ⟨by rfl, ?_⟩) ?_ ?_
      rotate_left
      · intro w'
        go_simp
        with_reducible rfl
      rotate_left
      · simp only [Act.put, List.setIfInBounds_toArray, List.set_cons_zero, List.set_cons_succ, i64_w, i32_w]
        rfl
      refine last_ (i := 11) (N := some 23) #[true, true, true, true, true, true, true, true, true, true, true, true, false, false] rfl rfl (by kernel_rfl) (by decide) (fun K hK => ?_)
      refine Kd.R_lit_step (Kd.int .u8) _ 5 (by rfl) (N := 23) rfl (xs := ([IntKind.u8.wrap (a.tmod 256), IntKind.u8.wrap (wrap64 (a.tdiv 256))] : List Int)) (inner := [.int .u8 (IntKind.u8.wrap (a.tmod 256)), .int .u8 (IntKind.u8.wrap (wrap64 (a.tdiv 256)))]) (ok := fun _ => True) (okp := fun _ => True) ?hr ?hp (fun _ hk => hk) trivial (Below.refl _ _) (Nat.le_refl _) (by simp) ?_
      case hr => first | (go_simp; done) | (go_simp; rfl)
      case hp => exact (Reps.one (show Kd.M (Kd.int .u8) _ _ _ (IntKind.u8.wrap (a.tmod 256)) [.int .u8 (IntKind.u8.wrap (a.tmod 256))] from rfl) (Reps.one (show Kd.M (Kd.int .u8) _ _ _ (IntKind.u8.wrap (wrap64 (a.tdiv 256))) [.int .u8 (IntKind.u8.wrap (wrap64 (a.tdiv 256)))] from rfl) (Reps.none _ _)))
      intro v5 w5 ho6 hb hg_ hnew_
      clear hg_ hnew_
      have n0_ := Aside0.mk (Kd.R_below (by (with_reducible repeat (first | apply Kd.R_alloc | apply Kd.R_drewN | apply Kd.R_drew)); exact HV.out) hb)
      have n1_ := Aside0.mk (Kd.R_lower (base' := w.heap.size + 1) ho6 SZD.out)
      have n2_ := Aside0.mk (below_stepB BWD.out hb SZD.out)
      clear hb HV BW
      have HV := n0_
      have HN := n1_
      have BW := n2_
      clear n0_ n1_ n2_ ho6
      obtain ⟨An, cn, en⟩ := Kd.R_slice HN.out
      rw [show ([IntKind.u8.wrap (a.tmod 256), IntKind.u8.wrap (wrap64 (a.tdiv 256))] : List Int).length = 2 from rfl] at en
      subst en
      refine hK.out _ _ ?_
      clear hK K
      refine norm_ (a' := ?_) ?_ ?_
      rotate_left
      · show Act.put _ (some 23) _ = _
        simp only [Act.put, List.setIfInBounds_toArray, List.set_cons_zero, List.set_cons_succ, i64_w, i32_w]
        rfl
      refine last_ (i := 12) (N := some 24) #[true, true, true, true, true, true, true, true, true, true, true, true, true, false] rfl rfl (by kernel_rfl) (by decide) (fun K hK => ?_)
      refine Kd.R_append_rows_step (Kd.int .u8) (w0 := W0) (w.heap.size + 1) (by rfl) (.tmp 12) (.tmp 23) 22 5 (.int .u8 0) 1 rfl Try.underlying22 info5 rfl (by decide) (by omega) (.slice Av (2 * k) cv) (bysS ys k) [IntKind.u8.wrap (a.tmod 256), IntKind.u8.wrap (wrap64 (a.tdiv 256))] _ _ _ (fun _ => True) (fun _ => False) rfl rfl (by (with_reducible repeat (first | apply Kd.R_alloc | apply Kd.R_drewN | apply Kd.R_drew)); exact HV.out) (Kd.R_reads' HN.out).2.2 (fun _ _ h => h) (fun _ h => h.elim) (fun _ _ => trivial) BW.out (Nat.le_trans SZ.out BW.out.size) (by have := HL2.out; omega) ?_
      intro v6 w6 ho hb hg_ hat
      rw [← EQ.out] at ho
      have HV2 := Aside0.mk ho
      have BW2 := Aside0.mk hb
      clear hg_ hat ho hb
      refine hK.out _ _ ?_
      clear hK K
      refine norm_ (a' := ?_) ?_ ?_
      rotate_left
      · show Act.put _ (some 24) _ = _
        simp only [Act.put, List.setIfInBounds_toArray, List.set_cons_zero, List.set_cons_succ, i64_w, i32_w]
        rfl
      refine pure_ (i := 13) (N := some 3) (v := ?_) (a' := ?_) #[true, true, true, true, true, true, true, true, true, true, true, true, true, true] rfl rfl (by kernel_rfl) (fun _ _ _ h => h) (Or.inl ⟨by rfl, ?_⟩) ?_ ?_
      rotate_left
      · intro w'
        go_simp
        with_reducible rfl
      rotate_left
      · simp only [Act.put, List.setIfInBounds_toArray, List.set_cons_zero, List.set_cons_succ, i64_w, i32_w]
        rfl
      refine done_ (by kernel_rfl) ?_

      go_wp2
      go_roundg (16 - (k + 1))
      case measure => omega
      case rel => exact ⟨k + 1, by omega, by omega, by go_num, ⟨S.out.stepB BW2.out⟩, ⟨(by (with_reducible repeat (first | apply Kd.R_alloc | apply Kd.R_drewN | apply Kd.R_drew)); exact HV2.out)⟩⟩
    · have hk16 : k = 16 := by omega
      have hneg : ¬ (k : Int) < 16 := by omega
      have HK := Aside0.mk hk16
      clear hk16 hk hlt
      go_wp2
      go_ret
      refine ⟨_, rfl, ?_, S.out.below⟩
      have h1 := Kd.R_lower HV.out (Nat.le_succ _)
      rw [congrArg (bysS ys) HK.out] at h1
      exact h1
set_option maxHeartbeats 1000000 in
set_option maxRecDepth 100000 in
theorem bytes_fe (c : Nat) (w : World) (hc : c < BB) :
    Calls Try.prog 46 #[.agg (arr .i64 (fe c))] w fun e w' => ∃ v0_ : Value, e = .returned (v0_) ∧ Kd.R (Kd.int .u8) 5 w' w.heap.size (fun _ => True) v0_ (limbs 256 32 (c % PP)) ∧ Below w.heap.size w w' := by
  have h := spec_l05Bytes.calls (fe c) w (fe_bd _) (fe_length _) (by rw [lstN_fe _ hc]; exact fe_ok _)
  rw [bys_fe _ hc] at h
  exact h


/-! ### spec_l05Of: function 48 -/
set_option maxHeartbeats 400000 in
set_option maxRecDepth 100000 in
theorem spec_l05Of.calls (A0 : Option Addr) (c0 : Nat) (l0 : List Int) (w : World) (hr0 : Kd.C (Kd.int .u8) w A0 l0.length l0) (h32 : l0.length = 32) (hb : Ok 256 l0) :
    Calls Try.prog 48 #[.slice A0 l0.length c0] w fun e w' => e = .returned (.agg (arr .i64 (ofS l0 16))) ∧ Below w.heap.size w w' := by
  have HR := Aside0.mk hr0
  have H32 := Aside0.mk h32
  have OB := Aside0.mk hb
  clear hr0 hb h32
  go_enter Try.func48, Try.ntmps48
  go_wp2
  go_loopg [4] 16 (fun gg v4 wr => ∃ k : Nat, k ≤ 16 ∧ 16 - k ≤ gg ∧ v4 = .int .i64 k ∧ Aside0 (St w [⟨40, .i64, z16⟩, ⟨40, .i64, ofS l0 k⟩] wr))
  case atStart =>
    exact ⟨0, by omega, by omega, rfl, ⟨((St.start w).push rfl 40 .i64 z16).push (World.size_alloc ..) 40 .i64 z16⟩⟩
  case round =>
    obtain ⟨k, hk, hg, rfl, S⟩ := hrel
    by_cases hlt : k < 16
    · have hlti : (k : Int) < 16 := by omega
      have h32 := H32.out
      obtain ⟨ad, e1, hx⟩ := Kd.at_int (Kd.C_below HR.out S.out.below) (2 * (k : Int)) (by omega) (by omega)
      cases e1
      obtain ⟨ad, e1, hy⟩ := Kd.at_int (Kd.C_below HR.out S.out.below) (2 * (k : Int) + 1) (by omega) (by omega)
      cases e1
      have hc1 := S.out.cell 1 rfl k (by rw [ofS_length]; omega)
      have hf1 := blk_frozen (S.out.blk 1 rfl) k
      have c1 := getD_range OB.out (2 * k) (by omega)
      have c2 := getD_range OB.out (2 * k + 1) (by omega)
      have e1 : rd l0 (2 * (k : Int)) = l0.getD (2 * k) 0 := by rw [rd, show (2 * (k : Int)).toNat = 2 * k from by omega]
      have e2 : rd l0 (2 * (k : Int) + 1) = l0.getD (2 * k + 1) 0 := by rw [rd, show (2 * (k : Int) + 1).toNat = 2 * k + 1 from by omega]
      rw [e1, show (2 * (k : Int)).toNat = 2 * k from by omega] at hx
      rw [e2, show (2 * (k : Int) + 1).toNat = 2 * k + 1 from by omega] at hy
      have P := Aside0.mk ((S.out.set 1 rfl k (l0.getD (2 * k) 0 + 256 * l0.getD (2 * k + 1) 0)).drew)
      have EQ := Aside0.mk (show ofS l0 (k + 1) = (ofS l0 k).set k (l0.getD (2 * k) 0 + 256 * l0.getD (2 * k + 1) 0) from rfl)
      have hl : (2 * (k : Int) + 1) < (l0.length : Int) := by omega
      clear e1 e2
      generalize l0.getD (2 * k) 0 = x at *
      generalize l0.getD (2 * k + 1) 0 = y at *
      obtain ⟨i, hi⟩ : ∃ i : Nat, i = 2 * k := ⟨_, rfl⟩
      obtain ⟨j, hj⟩ : ∃ j : Nat, j = 2 * k + 1 := ⟨_, rfl⟩
      rw [← hi] at hx
      rw [← hj] at hy
      have i1 : 2 * (k : Int) = (i : Int) := by omega
      have j1 : (i : Int) + 1 = (j : Int) := by omega
      have j32 : (j : Int) < 32 := by omega
      have x0 := c1.1
      have x1 : x < 256 := c1.2
      have y0 := c2.1
      have y1 : y < 256 := c2.2
      clear hi hj hl c1 c2
      go_wp2
      go_region
      go_wp2
      go_roundg (16 - (k + 1))
      case measure => omega
      case rel => exact ⟨k + 1, by omega, by omega, by go_num, by rw [EQ.out]; exact P⟩
    · obtain rfl : k = 16 := by omega
      have hneg : ¬ ((16 : Nat) : Int) < 16 := by omega
      have B0 := Aside0.mk (S.out.blk 0 rfl)
      have B1 := Aside0.mk (S.out.blk 1 rfl)
      go_wp2_with (first
        | ((with_reducible refine gate_dst (N := 27) rfl ?_); refine ld_arr rfl 40 (.tmp 3) rfl (w.heap.size + 1) rfl B1.out Try.underlying40 (m := 16) (by kernel_rfl) (ofS_length _ _) ?_)
        | (refine st_arr rfl 40 (.tmp 2) (.tmp 27) rfl w.heap.size (xs := ofS l0 16) rfl rfl B0.out (m := 16) (by kernel_rfl) (ofS_length _ _) (by rw [ofS_length]; rfl) ?_; intro w' h1 h2 h4 h3; have H1 := Aside0.mk h1; have H3 := Aside0.mk h3; clear h1 h2 h3 h4))
      exact bodyPost_ret (results_cell_row Try.results48 _ _ w.heap.size 40 _ (0, 0) _ rfl H1.out Try.underlying40 rfl (by rw [arr_size, ofS_length]; kernel_rfl)) rfl ⟨rfl, H3.out _ _ S.out.below (Nat.le_refl _)⟩


end Go.Proofs.Ytijeackkgcnbgaa.XO
