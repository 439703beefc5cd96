-- Written by a program of this session (xp.py over the kit's printer, with functions proved by hand). Lean checks it.
import Derived.Test.YtijeackkgcnbgaaXTx0
namespace Go.Proofs.Ytijeackkgcnbgaa.XT
open Go.Proofs.Ytijeackkgcnbgaa.Limb Go.Proofs.Ytijeackkgcnbgaa.Arr Go.Proofs.Ytijeackkgcnbgaa.FldA Go.Proofs.Ytijeackkgcnbgaa.FldB Go.Proofs.Ytijeackkgcnbgaa.FldC Go.Proofs.Ytijeackkgcnbgaa.FldS Go.Proofs.Ytijeackkgcnbgaa.FldP Go.Proofs.Ytijeackkgcnbgaa.FldW Go.Proofs.Ytijeackkgcnbgaa.FldM Go.Proofs.Ytijeackkgcnbgaa.FldT Go.Proofs.Ytijeackkgcnbgaa.St Go.Proofs.Ytijeackkgcnbgaa.StOps Go.Proofs.Ytijeackkgcnbgaa.StMid Go.Proofs.Ytijeackkgcnbgaa.StEq Go.Proofs.Ytijeackkgcnbgaa.StIdx
open Go.RowKit Go.Proofs.YtijeackkgcnbgaaW.PrintWords Go.Proofs.YtijeackkgcnbgaaW.PrintLast Go.Proofs.YtijeackkgcnbgaaW.PrintMore
attribute [local go_sem] max2_int min2_int max_two min_two max_three min_three max_four min_four   -- for this text's walks alone
set_option linter.unusedVariables false
set_option linter.unusedSimpArgs false

/-! ### laws_eqByteS: function 18 -/
def laws_eqByteS.l0 : Nat → List Int → List Int → Int → Option (Bool)
  | 0, _, _, _ => none
  | k + 1, x0, x1, x5 => if x5 < (x0.length : Int) then (if 0 ≤ x5 then (if x5 < (x1.length : Int) then (if (rd x0 x5) = (rd x1 x5) then (laws_eqByteS.l0 k x0 x1 (wrap64 (x5 + 1))) else (some false)) else (none)) else (none)) else (some true)
def laws_eqByteS.f (k : Nat) (l0 : List Int) (l1 : List Int) : Option (Bool) := if (l0.length : Int) = (l1.length : Int) then (laws_eqByteS.l0 k l0 l1 0) else (some false)
theorem laws_eqByteS.mono_l : ∀ k, (∀ y0 y1 y2, LeO (laws_eqByteS.l0 k y0 y1 y2) (laws_eqByteS.l0 (k + 1) y0 y1 y2))
  | 0 => fun _ _ _ r h => by simp [laws_eqByteS.l0] at h
  | k + 1 => by
    have ih0 := laws_eqByteS.mono_l k
    · intro y0 y1 y2
      unfold laws_eqByteS.l0
      repeat' first
      | (with_reducible exact ih0 _ _ _)
      | (with_reducible exact LeO.refl _)
      | (with_reducible exact LeO.none _)
      | (with_reducible refine LeO.ite ?_ ?_)
      | (with_reducible refine LeO.bind ?_ (fun _ => ?_))
      | exact ih0 _ _ _
      | exact LeO.none _
      | refine LeO.ite ?_ ?_
      | refine LeO.bind ?_ (fun _ => ?_)
theorem laws_eqByteS.mono : ∀ a0 a1 k, LeO (laws_eqByteS.f k a0 a1) (laws_eqByteS.f (k + 1) a0 a1) := by
  intro a0 a1 k
  have ih0 := laws_eqByteS.mono_l k
  unfold laws_eqByteS.f
  repeat' first
      | (with_reducible exact ih0 _ _ _)
      | (with_reducible exact LeO.refl _)
      | (with_reducible exact LeO.none _)
      | (with_reducible refine LeO.ite ?_ ?_)
      | (with_reducible refine LeO.bind ?_ (fun _ => ?_))
      | exact ih0 _ _ _
      | exact LeO.none _
      | refine LeO.ite ?_ ?_
      | refine LeO.bind ?_ (fun _ => ?_)
set_option maxHeartbeats 8000000 in
set_option maxRecDepth 100000 in
theorem laws_eqByteS.calls (k : Nat) (A0 : Option Addr) (c0 : Nat) (l0 : List Int) (A1 : Option Addr) (c1 : Nat) (l1 : List Int) (r : Bool) (w : World) (hr0 : Kd.C (Kd.int .u8) w A0 l0.length l0) (hc0 : l0.length ≤ c0) (hr1 : Kd.C (Kd.int .u8) w A1 l1.length l1) (hc1 : l1.length ≤ c1) (h : laws_eqByteS.f k l0 l1 = some r) :
    Calls Try.prog 18 #[.slice A0 l0.length c0, .slice A1 l1.length c1] w fun e w' => e = .returned (.bool r) ∧ Drawn0 w w' := by
  have HR0 := Aside0.mk hr0
  have HC0 := Aside0.mk hc0
  clear hr0 hc0
  have HR1 := Aside0.mk hr1
  have HC1 := Aside0.mk hc1
  clear hr1 hc1
  have H : (if (l0.length : Int) = (l1.length : Int) then (laws_eqByteS.l0 k l0 l1 0) else (some false)) = some r := h
  clear h
  by_cases c3 : (l0.length : Int) = (l1.length : Int)
  · rw [if_pos c3] at H
    have c3b0 : ((l0.length : Int) == (l1.length : Int)) = true := beq_iff_eq.mpr c3
    have c3b1 : ((l0.length : Int) != (l1.length : Int)) = false := bne_eq_false_iff_eq.mpr c3
    have c3b2 : (l0.length == l1.length) = true := by first | simpa using c3 | (simp at c3 ⊢; omega)
    clear c3
    have H' := Aside0.mk H
    clear H
    go_enter Try.func18, Try.ntmps18
    go_wp2
    repeat (go_quiet (fail); try go_wp2)
    go_loopg [5] k (fun kq v5 w' => ∃ (x5_1 : Int), v5 = .int .i64 x5_1 ∧ Aside0 (laws_eqByteS.l0 kq l0 l1 x5_1 = some r) ∧ Aside0 (kq ≤ k) ∧ Drawn0 w w')
    case atStart => exact ⟨(0), (by first | rfl | (simp; done) | (simp [*]; done)), H', ⟨Nat.le_refl _⟩, by repeat (first | exact Drawn0.refl _ | apply Drawn0.step)⟩
    case round =>
      clear H'
      try clear c1
      try clear p2
      try clear c3
      try clear c3b0
      try clear c3b1
      try clear c3b2
      obtain ⟨x5_1, rfl, HA, HK1, ⟨m1, rfl⟩⟩ := hrel
      cases gk with
      | zero => exact absurd HA.out (by simp [laws_eqByteS.l0])
      | succ k1 =>
        have H := HA.out
        clear HA
        simp only [laws_eqByteS.l0] at H
        by_cases c4 : x5_1 < (l0.length : Int)
        · rw [if_pos c4] at H
          have c4b0 : decide (x5_1 < (l0.length : Int)) = true := decide_eq_true c4
          clear c4
          by_cases c5 : 0 ≤ x5_1
          · rw [if_pos c5] at H
            have c5b0 : decide (0 ≤ x5_1) = true := decide_eq_true c5
            clear c5
            by_cases c6 : x5_1 < (l1.length : Int)
            · rw [if_pos c6] at H
              have c6b0 : decide (x5_1 < (l1.length : Int)) = true := decide_eq_true c6
              clear c6
              by_cases c7 : (rd l0 x5_1) = (rd l1 x5_1)
              · rw [if_pos c7] at H
                have c7b0 : ((rd l0 x5_1) == (rd l1 x5_1)) = true := beq_iff_eq.mpr c7
                have c7b1 : ((rd l0 x5_1) != (rd l1 x5_1)) = false := bne_eq_false_iff_eq.mpr c7
                clear c7
                have H' := Aside0.mk H
                clear H
                have p101 : 0 ≤ (x5_1 : Int) := of_decide_eq_true (by first | (with_reducible assumption) | assumption)
                have q101 : x5_1 < (l0.length : Int) := of_decide_eq_true (by first | (with_reducible assumption) | assumption)
                obtain ⟨ad101, e101, hx101_0⟩ := Kd.at_int HR0.out x5_1 p101 q101
                cases e101
                replace p101 := eq_true p101
                replace q101 := eq_true q101
                have p102 : 0 ≤ (x5_1 : Int) := of_decide_eq_true (by first | (with_reducible assumption) | assumption)
                have q102 : x5_1 < (l1.length : Int) := of_decide_eq_true (by first | (with_reducible assumption) | assumption)
                obtain ⟨ad102, e102, hx102_0⟩ := Kd.at_int HR1.out x5_1 p102 q102
                cases e102
                replace p102 := eq_true p102
                replace q102 := eq_true q102
                go_wp2
                repeat (go_quiet (fail); try go_wp2)
                go_roundg k1
                case measure => have := HK1.out; omega
                case rel => exact ⟨(wrap64 (x5_1 + 1)), (by first | rfl | (simp; done) | (simp [*]; done)), H', ⟨by have := HK1.out; omega⟩, by repeat (first | exact Drawn0.refl _ | apply Drawn0.step)⟩
              · rw [if_neg c7] at H
                have c7b0 : ((rd l0 x5_1) == (rd l1 x5_1)) = false := beq_eq_false_iff_ne.mpr c7
                have c7b1 : ((rd l0 x5_1) != (rd l1 x5_1)) = true := bne_iff_ne.mpr c7
                obtain rfl := Option.some.inj H
                have p101 : 0 ≤ (x5_1 : Int) := of_decide_eq_true (by first | (with_reducible assumption) | assumption)
                have q101 : x5_1 < (l0.length : Int) := of_decide_eq_true (by first | (with_reducible assumption) | assumption)
                obtain ⟨ad101, e101, hx101_0⟩ := Kd.at_int HR0.out x5_1 p101 q101
                cases e101
                replace p101 := eq_true p101
                replace q101 := eq_true q101
                have p102 : 0 ≤ (x5_1 : Int) := of_decide_eq_true (by first | (with_reducible assumption) | assumption)
                have q102 : x5_1 < (l1.length : Int) := of_decide_eq_true (by first | (with_reducible assumption) | assumption)
                obtain ⟨ad102, e102, hx102_0⟩ := Kd.at_int HR1.out x5_1 p102 q102
                cases e102
                replace p102 := eq_true p102
                replace q102 := eq_true q102
                go_wp2
                repeat (go_quiet (fail); try go_wp2)
                go_ret
                exact ⟨by first | rfl | (simp; done) | (simp [*]; done), by repeat (first | exact Drawn0.refl _ | apply Drawn0.step)⟩
            · rw [if_neg c6] at H
              exact absurd H (by simp)
          · rw [if_neg c5] at H
            exact absurd H (by simp)
        · rw [if_neg c4] at H
          have c4b0 : decide (x5_1 < (l0.length : Int)) = false := decide_eq_false c4
          clear c4
          obtain rfl := Option.some.inj H
          go_wp2
          repeat (go_quiet (fail); try go_wp2)
          go_ret
          exact ⟨by first | rfl | (simp; done) | (simp [*]; done), by repeat (first | exact Drawn0.refl _ | apply Drawn0.step)⟩
  · rw [if_neg c3] at H
    have c3b0 : ((l0.length : Int) == (l1.length : Int)) = false := beq_eq_false_iff_ne.mpr c3
    have c3b1 : ((l0.length : Int) != (l1.length : Int)) = true := bne_iff_ne.mpr c3
    have c3b2 : (l0.length == l1.length) = false := by first | simpa using c3 | (simp at c3 ⊢; omega)
    obtain rfl := Option.some.inj H
    go_enter Try.func18, Try.ntmps18
    go_wp2
    repeat (go_quiet (fail); try go_wp2)
    go_ret
    exact ⟨by first | rfl | (simp; done) | (simp [*]; done), by repeat (first | exact Drawn0.refl _ | apply Drawn0.step)⟩

/-! ### laws_markByteS: function 21 -/
def laws_markByteS.l0 : Nat → List Int → Int → Int → Option (Int × List Int)
  | 0, _, _, _ => none
  | k + 1, x0, x1, x5 => if x5 < (x0.length : Int) then (if 0 ≤ x5 then (laws_markByteS.l0 k (x0.set (x5 : Int).toNat ((x1) % 256)) (wrap64 (x1 + 1)) (wrap64 (x5 + 1))) else (none)) else (some (x1, x0))
def laws_markByteS.f (k : Nat) (l0 : List Int) (a1 : Int) : Option (Int × List Int) := laws_markByteS.l0 k l0 a1 0
theorem laws_markByteS.mono_l : ∀ k, (∀ y0 y1 y2, LeO (laws_markByteS.l0 k y0 y1 y2) (laws_markByteS.l0 (k + 1) y0 y1 y2))
  | 0 => fun _ _ _ r h => by simp [laws_markByteS.l0] at h
  | k + 1 => by
    have ih0 := laws_markByteS.mono_l k
    · intro y0 y1 y2
      unfold laws_markByteS.l0
      repeat' first
      | (with_reducible exact ih0 _ _ _)
      | (with_reducible exact LeO.refl _)
      | (with_reducible exact LeO.none _)
      | (with_reducible refine LeO.ite ?_ ?_)
      | (with_reducible refine LeO.bind ?_ (fun _ => ?_))
      | exact ih0 _ _ _
      | exact LeO.none _
      | refine LeO.ite ?_ ?_
      | refine LeO.bind ?_ (fun _ => ?_)
theorem laws_markByteS.mono : ∀ a0 a1 k, LeO (laws_markByteS.f k a0 a1) (laws_markByteS.f (k + 1) a0 a1) := by
  intro a0 a1 k
  have ih0 := laws_markByteS.mono_l k
  unfold laws_markByteS.f
  repeat' first
      | (with_reducible exact ih0 _ _ _)
      | (with_reducible exact LeO.refl _)
      | (with_reducible exact LeO.none _)
      | (with_reducible refine LeO.ite ?_ ?_)
      | (with_reducible refine LeO.bind ?_ (fun _ => ?_))
      | exact ih0 _ _ _
      | exact LeO.none _
      | refine LeO.ite ?_ ?_
      | refine LeO.bind ?_ (fun _ => ?_)
set_option maxHeartbeats 8000000 in
set_option maxRecDepth 100000 in
theorem laws_markByteS.calls (k : Nat) (P0_ : Nat → Prop) (u9000_ : Value) (l0 : List Int) (a1 : Int) (r1 : Int) (r2 : List Int) (w0 w : World) (hB : Below w0.heap.size w0 w) (ho0 : Kd.R (Kd.int .u8) 5 w w0.heap.size P0_ u9000_ l0) (h : laws_markByteS.f k l0 a1 = some (r1, r2)) :
    Calls Try.prog 21 #[u9000_, .int .i64 a1] w fun e w' => e = .returned (.int .i64 r1) ∧ Kd.R (Kd.int .u8) 5 w' w0.heap.size (fun k_ => (P0_ k_ ∨ w.heap.size ≤ k_)) u9000_ r2 ∧ Below w0.heap.size w0 w' ∧ Kept w w' (fun k_ => P0_ k_) := by
  have HO0 := Aside0.mk (show Kd.R (Kd.int .u8) 5 w w0.heap.size (fun k_ => (P0_ k_ ∨ w.heap.size ≤ k_)) u9000_ l0 from Kd.R_mono ho0 (fun k_ hk => (.inl hk)))
  have HK := Aside0.mk (Kept.refl w (fun k_ => P0_ k_))
  have HW0 := Aside0.mk hB.size
  have HB := Aside0.mk hB
  clear hB
  have H : (laws_markByteS.l0 k l0 a1 0) = some (r1, r2) := h
  clear h
  have H' := Aside0.mk H
  clear H
  go_enter Try.func21, Try.ntmps21
  go_wp2
  go_loopg [1, 5] k (fun kq v1 v5 w' => ∃ (x0_1 : List Int) (x1_1 : Int) (x5_1 : Int), v1 = .int .i64 x1_1 ∧ v5 = .int .i64 x5_1 ∧ Aside0 (laws_markByteS.l0 kq x0_1 x1_1 x5_1 = some (r1, r2)) ∧ Aside0 (kq ≤ k) ∧ Aside0 (Kd.R (Kd.int .u8) 5 w' w0.heap.size (fun k_ => (P0_ k_ ∨ w.heap.size ≤ k_)) u9000_ x0_1) ∧ Aside0 (Kept w w' (fun k_ => P0_ k_)) ∧ Aside0 (Below w0.heap.size w0 w'))
  case atStart => exact ⟨(l0), (a1), (0), (by first | rfl | (simp; done) | (simp [*]; done)), (by first | rfl | (simp; done) | (simp [*]; done)), H', ⟨Nat.le_refl _⟩, ⟨by (with_reducible repeat (first | apply Kd.R_alloc | apply Kd.R_drewN | apply Kd.R_drew)); exact HO0.out⟩, ⟨by repeat (first | (with_reducible first | exact HK.out | apply Kept.alloc | apply Kept.drewN | apply Kept.drew) | exact HK.out)⟩, ⟨by repeat (first | (with_reducible first | exact HB.out | apply below_alloc | apply pw_below_drewN | apply below_drew1) | exact HB.out)⟩⟩
  case round =>
    clear H'
    try clear c2
    try clear p2
    obtain ⟨x0_1, x1_1, x5_1, rfl, rfl, HA, HK1, HO_0, HK, HB⟩ := hrel
    cases gk with
    | zero => exact absurd HA.out (by simp [laws_markByteS.l0])
    | succ k1 =>
      have H := HA.out
      clear HA
      simp only [laws_markByteS.l0] at H
      by_cases c3 : x5_1 < (x0_1.length : Int)
      · rw [if_pos c3] at H
        have c3b0 : decide (x5_1 < (x0_1.length : Int)) = true := decide_eq_true c3
        clear c3
        by_cases c4 : 0 ≤ x5_1
        · rw [if_pos c4] at H
          have c4b0 : decide (0 ≤ x5_1) = true := decide_eq_true c4
          clear c4
          obtain ⟨y103, hy103⟩ : ∃ y_ : List Int, y_ = (x0_1.set (x5_1 : Int).toNat ((x1_1) % 256)) := ⟨_, rfl⟩
          replace H : (laws_markByteS.l0 k1 y103 (wrap64 (x1_1 + 1)) (wrap64 (x5_1 + 1))) = some (r1, r2) := by first | (rw [hy103]; with_reducible exact H) | (have H2_ := (Option.bind_some _ _).symm.trans H; rw [hy103]; with_reducible exact H2_) | (have H2_ := (Option.bind_some _ _).symm.trans H; with_reducible exact H2_) | with_reducible exact H | (rw [hy103]; exact H) | exact H
          have Ny103 := Aside0.mk hy103
          clear hy103
          have H' := Aside0.mk H
          clear H
          obtain ⟨Ao6, co6, eo6⟩ := Kd.R_slice HO_0.out
          subst eo6
          have p5 : 0 ≤ (x5_1 : Int) := of_decide_eq_true (by first | (with_reducible assumption) | assumption)
          have q5 : (x5_1 : Int) < ((x0_1.length : Int) : Int) := of_decide_eq_true (by first | (with_reducible assumption) | assumption)
          obtain ⟨go5, co5, eo5, gb5, gl5, cl5, HG5⟩ := Kd.R_form HO_0.out (by omega)
          (first | cases eo5 | (injection eo5 with ea_ en_ ec_; (first | subst ea_ | (injection ea_ with ea_; subst ea_)); subst ec_; clear en_))
          have GB5 := Aside0.mk gb5
          have GG5 := Aside0.mk HG5
          clear gb5 gl5 HG5
          have HMgo5 := Aside0.mk (show (P0_ go5 ∨ w.heap.size ≤ go5) from (HO_0.out.1 _ rfl))
          obtain ⟨hx5_0, hf5_0⟩ := Kd.R_celln 0 HO_0.out (x5_1 : Int) p5 q5
          replace p5 := eq_true p5
          replace q5 := eq_true q5
          have HP7 := Kd.R_putg HO_0.out (x5_1 : Int) ((x1_1) % 256)
          go_wp2_with (first | ((with_reducible refine gate_store (t := 5) (p := 16) rfl ?_); refine store_event (t := 5) (p := 16) (v := ?vo_w8) (w1 := (wr.setCell ⟨go5, (x5_1 : Int).toNat, none⟩ (.int .u8 ((x1_1) % 256)))) ?hg ?ho ?hn ?hr ?_; (case ho => rfl); (case hg => rfl); (case hn => rfl); (case hr => first | (go_simp; done) | (go_simp; rfl)); intro w8 hw; have hg : wr.grownBy w8 (some go5) := (by rw [hw]; exact HP7.2); have hp_ : Kd.R (Kd.int .u8) 5 w8 w0.heap.size (fun k_ => (P0_ k_ ∨ w.heap.size ≤ k_)) (.slice (some ⟨go5, 0, none⟩) x0_1.length co6) y103 := (by rw [hw, Ny103.out]; exact HP7.1); clear HP7; have n0_ := Aside0.mk (hp_); have n1_ := Aside0.mk ((by rw [hw]; exact below_set (HB.out) GB5.out : Below w0.heap.size w0 w8)); have n2_ := Aside0.mk (Kept.of_grown (S := (fun k_ => P0_ k_)) hg (by repeat (first | (with_reducible first | exact HK.out | apply Kept.alloc | apply Kept.drewN | apply Kept.drew) | exact HK.out)) (fun k_ e_ => (HO_0.out.1 k_ e_))); clear HO_0; clear HB; clear HK; have HO_0 := n0_; have HB := n1_; have HK := n2_; clear n0_ n1_ n2_; clear hg hw hp_))
          go_roundg k1
          case measure => have := HK1.out; omega
          case rel => exact ⟨(y103), (wrap64 (x1_1 + 1)), (wrap64 (x5_1 + 1)), (by first | rfl | (simp; done) | (simp [*]; done)), (by first | rfl | (simp; done) | (simp [*]; done)), H', ⟨by have := HK1.out; omega⟩, ⟨by (with_reducible repeat (first | apply Kd.R_alloc | apply Kd.R_drewN | apply Kd.R_drew)); exact HO_0.out⟩, ⟨by repeat (first | (with_reducible first | exact HK.out | apply Kept.alloc | apply Kept.drewN | apply Kept.drew) | exact HK.out)⟩, ⟨by repeat (first | (with_reducible first | exact HB.out | apply below_alloc | apply pw_below_drewN | apply below_drew1) | exact HB.out)⟩⟩
        · rw [if_neg c4] at H
          exact absurd H (by simp)
      · rw [if_neg c3] at H
        have c3b0 : decide (x5_1 < (x0_1.length : Int)) = false := decide_eq_false c3
        clear c3
        simp only [Option.some.injEq, Prod.mk.injEq] at H
        obtain ⟨rfl, rfl⟩ := H
        obtain ⟨Ao9, co9, eo9⟩ := Kd.R_slice HO_0.out
        subst eo9
        go_wp2
        go_ret
        exact ⟨by first | rfl | (simp [errW_none, errW_some] <;> rfl) | (simp [*, errW_none, errW_some] <;> rfl), by (with_reducible repeat (first | apply Kd.R_alloc | apply Kd.R_drewN | apply Kd.R_drew)); exact HO_0.out, by repeat (first | (with_reducible first | exact HB.out | apply below_alloc | apply pw_below_drewN | apply below_drew1) | exact HB.out), by repeat (first | (with_reducible first | exact HK.out | apply Kept.alloc | apply Kept.drewN | apply Kept.drew) | exact HK.out)⟩

/-! ### laws_heldByteS: function 22 -/
def laws_heldByteS.l0 : Nat → List Int → Int → Int → Option (Int)
  | 0, _, _, _ => none
  | k + 1, x0, x1, x5 => if x5 < (x0.length : Int) then (if 0 ≤ x5 then (if (rd x0 x5) = ((x1) % 256) then (laws_heldByteS.l0 k x0 (wrap64 (x1 + 1)) (wrap64 (x5 + 1))) else (some (-1))) else (none)) else (some x1)
def laws_heldByteS.f (k : Nat) (l0 : List Int) (a1 : Int) : Option (Int) := laws_heldByteS.l0 k l0 a1 0
theorem laws_heldByteS.mono_l : ∀ k, (∀ y0 y1 y2, LeO (laws_heldByteS.l0 k y0 y1 y2) (laws_heldByteS.l0 (k + 1) y0 y1 y2))
  | 0 => fun _ _ _ r h => by simp [laws_heldByteS.l0] at h
  | k + 1 => by
    have ih0 := laws_heldByteS.mono_l k
    · intro y0 y1 y2
      unfold laws_heldByteS.l0
      repeat' first
      | (with_reducible exact ih0 _ _ _)
      | (with_reducible exact LeO.refl _)
      | (with_reducible exact LeO.none _)
      | (with_reducible refine LeO.ite ?_ ?_)
      | (with_reducible refine LeO.bind ?_ (fun _ => ?_))
      | exact ih0 _ _ _
      | exact LeO.none _
      | refine LeO.ite ?_ ?_
      | refine LeO.bind ?_ (fun _ => ?_)
theorem laws_heldByteS.mono : ∀ a0 a1 k, LeO (laws_heldByteS.f k a0 a1) (laws_heldByteS.f (k + 1) a0 a1) := by
  intro a0 a1 k
  have ih0 := laws_heldByteS.mono_l k
  unfold laws_heldByteS.f
  repeat' first
      | (with_reducible exact ih0 _ _ _)
      | (with_reducible exact LeO.refl _)
      | (with_reducible exact LeO.none _)
      | (with_reducible refine LeO.ite ?_ ?_)
      | (with_reducible refine LeO.bind ?_ (fun _ => ?_))
      | exact ih0 _ _ _
      | exact LeO.none _
      | refine LeO.ite ?_ ?_
      | refine LeO.bind ?_ (fun _ => ?_)
set_option maxHeartbeats 8000000 in
set_option maxRecDepth 100000 in
theorem laws_heldByteS.calls (k : Nat) (A0 : Option Addr) (c0 : Nat) (l0 : List Int) (a1 : Int) (r : Int) (w : World) (hr0 : Kd.C (Kd.int .u8) w A0 l0.length l0) (hc0 : l0.length ≤ c0) (h : laws_heldByteS.f k l0 a1 = some r) :
    Calls Try.prog 22 #[.slice A0 l0.length c0, .int .i64 a1] w fun e w' => e = .returned (.int .i64 r) ∧ Drawn0 w w' := by
  have HR0 := Aside0.mk hr0
  have HC0 := Aside0.mk hc0
  clear hr0 hc0
  have H : (laws_heldByteS.l0 k l0 a1 0) = some r := h
  clear h
  have H' := Aside0.mk H
  clear H
  go_enter Try.func22, Try.ntmps22
  go_wp2
  go_loopg [1, 5] k (fun kq v1 v5 w' => ∃ (x1_1 : Int) (x5_1 : Int), v1 = .int .i64 x1_1 ∧ v5 = .int .i64 x5_1 ∧ Aside0 (laws_heldByteS.l0 kq l0 x1_1 x5_1 = some r) ∧ Aside0 (kq ≤ k) ∧ Drawn0 w w')
  case atStart => exact ⟨(a1), (0), (by first | rfl | (simp; done) | (simp [*]; done)), (by first | rfl | (simp; done) | (simp [*]; done)), H', ⟨Nat.le_refl _⟩, by repeat (first | exact Drawn0.refl _ | apply Drawn0.step)⟩
  case round =>
    clear H'
    try clear c2
    try clear p2
    obtain ⟨x1_1, x5_1, rfl, rfl, HA, HK1, ⟨m1, rfl⟩⟩ := hrel
    cases gk with
    | zero => exact absurd HA.out (by simp [laws_heldByteS.l0])
    | succ k1 =>
      have H := HA.out
      clear HA
      simp only [laws_heldByteS.l0] at H
      by_cases c3 : x5_1 < (l0.length : Int)
      · rw [if_pos c3] at H
        have c3b0 : decide (x5_1 < (l0.length : Int)) = true := decide_eq_true c3
        clear c3
        by_cases c4 : 0 ≤ x5_1
        · rw [if_pos c4] at H
          have c4b0 : decide (0 ≤ x5_1) = true := decide_eq_true c4
          clear c4
          by_cases c5 : (rd l0 x5_1) = ((x1_1) % 256)
          · rw [if_pos c5] at H
            have c5b0 : ((rd l0 x5_1) == ((x1_1) % 256)) = true := beq_iff_eq.mpr c5
            have c5b1 : ((rd l0 x5_1) != ((x1_1) % 256)) = false := bne_eq_false_iff_eq.mpr c5
            clear c5
            have H' := Aside0.mk H
            clear H
            have p104 : 0 ≤ (x5_1 : Int) := of_decide_eq_true (by first | (with_reducible assumption) | assumption)
            have q104 : x5_1 < (l0.length : Int) := of_decide_eq_true (by first | (with_reducible assumption) | assumption)
            obtain ⟨ad104, e104, hx104_0⟩ := Kd.at_int HR0.out x5_1 p104 q104
            cases e104
            replace p104 := eq_true p104
            replace q104 := eq_true q104
            go_wp2
            go_roundg k1
            case measure => have := HK1.out; omega
            case rel => exact ⟨(wrap64 (x1_1 + 1)), (wrap64 (x5_1 + 1)), (by first | rfl | (simp; done) | (simp [*]; done)), (by first | rfl | (simp; done) | (simp [*]; done)), H', ⟨by have := HK1.out; omega⟩, by repeat (first | exact Drawn0.refl _ | apply Drawn0.step)⟩
          · rw [if_neg c5] at H
            have c5b0 : ((rd l0 x5_1) == ((x1_1) % 256)) = false := beq_eq_false_iff_ne.mpr c5
            have c5b1 : ((rd l0 x5_1) != ((x1_1) % 256)) = true := bne_iff_ne.mpr c5
            obtain rfl := Option.some.inj H
            have p104 : 0 ≤ (x5_1 : Int) := of_decide_eq_true (by first | (with_reducible assumption) | assumption)
            have q104 : x5_1 < (l0.length : Int) := of_decide_eq_true (by first | (with_reducible assumption) | assumption)
            obtain ⟨ad104, e104, hx104_0⟩ := Kd.at_int HR0.out x5_1 p104 q104
            cases e104
            replace p104 := eq_true p104
            replace q104 := eq_true q104
            go_wp2
            go_ret
            exact ⟨by first | rfl | (simp; done) | (simp [*]; done), by repeat (first | exact Drawn0.refl _ | apply Drawn0.step)⟩
        · rw [if_neg c4] at H
          exact absurd H (by simp)
      · rw [if_neg c3] at H
        have c3b0 : decide (x5_1 < (l0.length : Int)) = false := decide_eq_false c3
        clear c3
        obtain rfl := Option.some.inj H
        go_wp2
        go_ret
        exact ⟨by first | rfl | (simp; done) | (simp [*]; done), by repeat (first | exact Drawn0.refl _ | apply Drawn0.step)⟩

/-! ### spec_l05Carry: function 81 -/
set_option maxHeartbeats 400000 in
set_option maxRecDepth 100000 in
theorem spec_l05Carry.calls (xs : List Int) (w : World) (hb : Bd xs) (hl : xs.length = 16) :
    Calls Try.prog 81 #[.agg (arr .i64 xs)] w fun e w' => e = .returned (.agg (arr .i64 (carN xs 3))) ∧ Below w.heap.size w w' := by
  have HB := Aside0.mk hb
  have HL := Aside0.mk hl
  clear hb hl
  go_enter Try.func81, Try.ntmps81
  go_wp2
  go_loopg [3, 4, 5, 6] 3 (fun gg v3 _ _ _ wr => ∃ n : Nat, n ≤ 3 ∧ 3 - n ≤ gg ∧ v3 = .int .i64 n ∧ Aside0 (St w [⟨40, .i64, carN xs n⟩, ⟨40, .i64, z16⟩] wr))
  case atStart =>
    exact ⟨0, by omega, by omega, rfl, ⟨((St.start w).push rfl 40 .i64 xs).push (World.size_alloc ..) 40 .i64 z16⟩⟩
  case round =>
    obtain ⟨n, hn, hg, rfl, S⟩ := hrel
    by_cases hlt : n < 3
    · have hlti : (n : Int) < 3 := by omega
      have hbd := carN_bd xs HB.out HL.out n
      have EN := Aside0.mk (show carN xs (n + 1) = carR (carN xs n) from rfl)
      generalize carN xs n = ys at *
      have YB := Aside0.mk hbd.1
      have YL := Aside0.mk hbd.2
      clear hbd
      go_wp2
      go_loopg [4, 5, 6] 16 (fun gg2 v4 v5 _ wr2 => ∃ k : Nat, k ≤ 16 ∧ 16 - k ≤ gg2 ∧ v5 = .int .i64 k ∧ v4 = .int .i64 (carS ys k).2 ∧ Aside0 (St w [⟨40, .i64, (carS ys k).1⟩, ⟨40, .i64, z16⟩] wr2))
      case atStart => exact ⟨0, by omega, by omega, rfl, rfl, S⟩
      case round =>
        obtain ⟨k, hk, hg2, rfl, rfl, S2⟩ := hrel
        have hcb := carS_bd ys YB.out k
        have hkb := hcb.1 k
        by_cases hlt2 : k < 16
        · have hlti2 : (k : Int) < 16 := by omega
          have hc1 := S2.out.cell 0 rfl k (by have := YL.out; rw [carS_length]; omega)
          have hf1 := blk_frozen (S2.out.blk 0 rfl) k
          rw [Nat.add_zero] at hc1 hf1
          have P := Aside0.mk (S2.out.set 0 rfl k (((carS ys k).1.getD k 0 + (carS ys k).2) - ((carS ys k).1.getD k 0 + (carS ys k).2) / 65536 * 65536))
          have EQ := Aside0.mk (show carS ys (k + 1) = ((carS ys k).1.set k (((carS ys k).1.getD k 0 + (carS ys k).2) - ((carS ys k).1.getD k 0 + (carS ys k).2) / 65536 * 65536), ((carS ys k).1.getD k 0 + (carS ys k).2) / 65536) from rfl)
          have a1 := hkb.1
          have a2 := hkb.2
          have a3 := hcb.2.1
          have a4 := hcb.2.2
          clear hcb hkb
          generalize (carS ys k).1.getD k 0 = a at *
          generalize (carS ys k).2 = c at *
          have b1 : -4503737066323969 ≤ a + c := by omega
          have b2 : a + c ≤ 4503737066323969 := by omega
          have q1 : -68721573900 ≤ (a + c) / 65536 := by omega
          have q2 : (a + c) / 65536 ≤ 68721573900 := by omega
          go_wp2
          go_roundg (16 - (k + 1))
          case measure => omega
          case rel => refine ⟨k + 1, by omega, by omega, by go_num, ?_, by rw [EQ.out]; exact P⟩; rw [EQ.out]
        · obtain rfl : k = 16 := by omega
          have hneg : ¬ ((16 : Nat) : Int) < 16 := by omega
          have h0 := hcb.1 0
          have hc1 := S2.out.cell 0 rfl 0 (by have := YL.out; rw [carS_length]; omega)
          have hf1 := blk_frozen (S2.out.blk 0 rfl) 0
          rw [Nat.add_zero] at hc1 hf1
          have P := Aside0.mk (S2.out.set 0 rfl 0 ((carS ys 16).1.getD 0 0 + 38 * (carS ys 16).2))
          have EQ := Aside0.mk (show carR ys = (carS ys 16).1.set 0 ((carS ys 16).1.getD 0 0 + 38 * (carS ys 16).2) from rfl)
          have a1 := h0.1
          have a2 := h0.2
          have a3 := hcb.2.1
          have a4 := hcb.2.2
          clear hcb hkb h0
          generalize (carS ys 16).1.getD 0 0 = a at *
          generalize (carS ys 16).2 = c at *
          go_wp2
          go_roundg (3 - (n + 1))
          case measure => omega
          case rel => exact ⟨n + 1, by omega, by omega, by go_num, by rw [EN.out, EQ.out]; exact P⟩
    · obtain rfl : n = 3 := by omega
      have hneg : ¬ ((3 : Nat) : Int) < 3 := by omega
      have B0 := Aside0.mk (S.out.blk 0 rfl)
      have B1 := Aside0.mk (S.out.blk 1 rfl)
      have L := Aside0.mk (carN_bd xs HB.out HL.out 3).2
      go_wp2_with (first
        | ((with_reducible refine gate_dst (N := 34) rfl ?_); refine ld_arr rfl 40 (.tmp 1) rfl w.heap.size rfl B0.out Try.underlying40 (m := 16) (by kernel_rfl) L.out ?_)
        | (refine st_arr rfl 40 (.tmp 2) (.tmp 34) rfl (w.heap.size + 1) (xs := carN xs 3) rfl rfl B1.out (m := 16) (by kernel_rfl) L.out (by rw [L.out]; rfl) ?_; intro w' h1 h2 h4 h3; have H1 := Aside0.mk h1; have H3 := Aside0.mk h3; clear h1 h2 h3 h4))
      exact bodyPost_ret (results_cell_row Try.results81 _ _ (w.heap.size + 1) 40 _ (0, 0) _ rfl H1.out Try.underlying40 rfl (by rw [arr_size, L.out]; kernel_rfl)) rfl ⟨rfl, H3.out _ _ S.out.below (by omega)⟩


/-! ### spec_l05Least: function 80 -/
set_option maxHeartbeats 4000000 in
set_option maxRecDepth 100000 in
theorem spec_l05Least.calls (xs : List Int) (w : World) (hb : Bd xs) (hl : xs.length = 16) :
    Calls Try.prog 80 #[.agg (arr .i64 xs)] w fun e w' => e = .returned (.agg (arr .i64 (lstN xs 2))) ∧ Below w.heap.size w w' := by
  have HB := Aside0.mk hb
  have HL := Aside0.mk hl
  have S0 := Aside0.mk (((St.start w).push rfl 40 .i64 xs).push (World.size_alloc ..) 40 .i64 z16)
  have LC := Aside0.mk (carN_bd xs hb hl 3).2
  clear hb hl
  go_enter Try.func80, Try.ntmps80
  go_wp2_with (first
    | ((with_reducible refine gate_dst (N := 8) rfl ?_); refine ld_arr rfl 40 (.tmp 1) rfl w.heap.size rfl (S0.out.blk 0 rfl) Try.underlying40 (m := 16) (by kernel_rfl) HL.out ?_)
    | ((with_reducible refine (spec_l05Carry.calls xs _ HB.out HL.out).mono ?_); rintro e w1 ⟨rfl, hb⟩; have S1 := Aside0.mk (S0.out.step hb); clear hb S0)
    | (refine st_arr rfl 40 (.tmp 1) (.tmp 9) rfl w.heap.size (xs := carN xs 3) rfl rfl (S1.out.blk 0 rfl) (m := 16) (by kernel_rfl) LC.out (by rw [LC.out, HL.out]) ?_; intro w2 h1 h2 h4 h3; have S2 := Aside0.mk (S1.out.row 0 rfl h1 h2 h3); clear h1 h2 h3 h4 S1))
  go_loopg [3, 4, 5, 6, 7] 2 (fun gg v3 _ _ _ _ wr => ∃ n : Nat, n ≤ 2 ∧ 2 - n ≤ gg ∧ v3 = .int .i64 n ∧ Aside0 (St w [⟨40, .i64, lstN xs n⟩, ⟨40, .i64, z16⟩] wr))
  case atStart => exact ⟨0, by omega, by omega, rfl, S2⟩
  case round =>
    obtain ⟨n, hn, hg, rfl, S⟩ := hrel
    obtain ⟨W0, e0⟩ : ∃ W0, W0 = wr := ⟨_, rfl⟩
    subst e0
    by_cases hlt : n < 2
    · have hlti : (n : Int) < 2 := by omega
      have hbs := lstN_bs xs HB.out HL.out n
      have EN := Aside0.mk (show lstN xs (n + 1) = lstR (lstN xs n) from rfl)
      generalize lstN xs n = ys at *
      have YL := Aside0.mk hbs.2
      have ZB := Aside0.mk (lstB_bd ys hbs.1 hbs.2)
      have y1 := (hbs.1 0).1
      have y2 := (hbs.1 0).2
      have EB := Aside0.mk (show lstB ys = ys.set 0 (ys.getD 0 0 + 19) from rfl)
      have ER := Aside0.mk (show lstR ys = (if 32768 ≤ (carS (lstB ys) 16).1.getD 15 0 ∨ 0 < (carS (lstB ys) 16).2 then
    (if 0 < (carS (lstB ys) 16).2 then ((carS (lstB ys) 16).1.set 15 ((carS (lstB ys) 16).1.getD 15 0 - 32768)).set 15 ((carS (lstB ys) 16).1.getD 15 0 - 32768 + 65536) else (carS (lstB ys) 16).1.set 15 ((carS (lstB ys) 16).1.getD 15 0 - 32768))
  else ys) from rfl)
      clear hbs
      obtain ⟨y, hy⟩ : ∃ y, y = ys.getD 0 0 := ⟨_, rfl⟩
      rw [← hy] at y1 y2 EB
      have HY := Aside0.mk hy
      clear hy
      have SZ := Aside0.mk S.out.size
      go_wp2_with (first
        | ((with_reducible refine gate_dst (N := 14) rfl ?_); refine ld_arr rfl 40 (.tmp 1) rfl w.heap.size rfl (S.out.blk 0 rfl) Try.underlying40 (m := 16) (by kernel_rfl) YL.out ?_)
        | (refine st_arr rfl 40 (.tmp 4) (.tmp 14) rfl W0.heap.size (xs := ys) rfl rfl (blk_new W0 (.cells (arr .i64 z16) 40)) (m := 16) (by kernel_rfl) YL.out (by rw [YL.out]; rfl) ?_; intro w2 h1 h2 h4 h3; have S2 := Aside0.mk (St.other (S.out.alloc (.cells (arr .i64 z16) 40)) h2 h3 (by exact SZ.out)); have G := Aside0.mk h1; have hc1 := blk_get h1 0 (by rw [YL.out]; omega); rw [← HY.out] at hc1; have hf1 := blk_frozen h1 0; have S3 := Aside0.mk (S2.out.far W0.heap.size SZ.out 0 (.int .i64 (y + 19))); have G3 := Aside0.mk (blk_upd h1 0 (y + 19)); clear h1 h2 h3 h4 S2 G))
      have zb := ZB.out
      generalize lstB ys = zs at *
      go_loopg [5, 6, 7] 16 (fun gg2 v5 v6 _ wr2 => ∃ k : Nat, k ≤ 16 ∧ 16 - k ≤ gg2 ∧ v6 = .int .i64 k ∧ v5 = .int .i64 (carS zs k).2 ∧ Aside0 (St w [⟨40, .i64, ys⟩, ⟨40, .i64, z16⟩] wr2) ∧ Aside0 (wr2.heap[W0.heap.size]? = some (.cells (arr .i64 (carS zs k).1) 40 (0, 0))))
      case atStart => exact ⟨0, by omega, by omega, rfl, rfl, S3, by have := G3.out; rw [← EB.out] at this; exact ⟨this⟩⟩
      case round =>
        obtain ⟨k, hk, hg2, rfl, rfl, S4, G4⟩ := hrel
        have hcb := carS_bd zs zb.1 k
        have hkb := hcb.1 k
        by_cases hlt2 : k < 16
        · have hlti2 : (k : Int) < 16 := by omega
          have hc1 := blk_get G4.out k (by rw [carS_length, zb.2]; omega)
          have hf1 := blk_frozen G4.out k
          have P := Aside0.mk (S4.out.far W0.heap.size SZ.out k (.int .i64 (((carS zs k).1.getD k 0 + (carS zs k).2) - ((carS zs k).1.getD k 0 + (carS zs k).2) / 65536 * 65536)))
          have PG := Aside0.mk (blk_upd G4.out k (((carS zs k).1.getD k 0 + (carS zs k).2) - ((carS zs k).1.getD k 0 + (carS zs k).2) / 65536 * 65536))
          have EQ := Aside0.mk (show carS zs (k + 1) = ((carS zs k).1.set k (((carS zs k).1.getD k 0 + (carS zs k).2) - ((carS zs k).1.getD k 0 + (carS zs k).2) / 65536 * 65536), ((carS zs k).1.getD k 0 + (carS zs k).2) / 65536) from rfl)
          have a1 := hkb.1
          have a2 := hkb.2
          have a3 := hcb.2.1
          have a4 := hcb.2.2
          clear hcb hkb zb
          generalize (carS zs k).1.getD k 0 = a at *
          generalize (carS zs k).2 = c at *
          have b1 : -4503737066323969 ≤ a + c := by omega
          have b2 : a + c ≤ 4503737066323969 := by omega
          have q1 : -68721573900 ≤ (a + c) / 65536 := by omega
          have q2 : (a + c) / 65536 ≤ 68721573900 := by omega
          go_wp2
          go_roundg (16 - (k + 1))
          case measure => omega
          case rel => refine ⟨k + 1, by omega, by omega, by go_num, ?_, P, by rw [EQ.out]; exact PG⟩; rw [EQ.out]
        · obtain rfl : k = 16 := by omega
          have hneg : ¬ ((16 : Nat) : Int) < 16 := by omega
          have hlo := carS_lo zs zb.2 16 (by omega) 15 (by omega)
          have hc1 := blk_get G4.out 15 (by rw [carS_length, zb.2]; omega)
          have hf1 := blk_frozen G4.out 15
          have L := Aside0.mk (show (carS zs 16).1.length = 16 by rw [carS_length, zb.2])
          have a1 := hlo.1
          have a2 := hlo.2
          clear hcb hkb hlo zb
          generalize carS zs 16 = p at *
          obtain ⟨ps, c⟩ := p
          simp only at *
          have P1 := Aside0.mk (S4.out.far W0.heap.size SZ.out 15 (.int .i64 (ps.getD 15 0 - 32768)))
          have Q1 := Aside0.mk (blk_upd G4.out 15 (ps.getD 15 0 - 32768))
          have P2 := Aside0.mk (P1.out.far W0.heap.size SZ.out 15 (.int .i64 (ps.getD 15 0 - 32768 + 65536)))
          have Q2 := Aside0.mk (blk_upd Q1.out 15 (ps.getD 15 0 - 32768 + 65536))
          have L1 := Aside0.mk (show (ps.set 15 (ps.getD 15 0 - 32768)).length = 16 by rw [List.length_set, L.out])
          have L2 := Aside0.mk (show ((ps.set 15 (ps.getD 15 0 - 32768)).set 15 (ps.getD 15 0 - 32768 + 65536)).length = 16 by rw [List.length_set, List.length_set, L.out])
          generalize ps.getD 15 0 = a at *
          by_cases c0 : 0 < c
          · have E2 := Aside0.mk (ER.out.trans (by rw [if_pos (Or.inr c0), if_pos c0]))
            by_cases c1 : 32768 ≤ a
            all_goals
              go_wp2_with (first
                | ((with_reducible refine gate_dst (N := 53) rfl ?_); refine ld_arr rfl 40 (.tmp 4) rfl W0.heap.size rfl Q2.out Try.underlying40 (m := 16) (by kernel_rfl) L2.out ?_)
                | (refine st_arr rfl 40 (.tmp 1) (.tmp 53) rfl w.heap.size (xs := (ps.set 15 (a - 32768)).set 15 (a - 32768 + 65536)) rfl rfl (P2.out.blk 0 rfl) (m := 16) (by kernel_rfl) L2.out (by rw [YL.out, L2.out]) ?_; intro w2 h1 h2 h4 h3; have S5 := Aside0.mk (P2.out.row 0 rfl h1 h2 h3); clear h1 h2 h3 h4))
              go_roundg (2 - (n + 1))
              case measure => omega
              case rel => exact ⟨n + 1, by omega, by omega, by go_num, by rw [EN.out, E2.out]; exact S5⟩
          · by_cases c1 : 32768 ≤ a
            · have E2 := Aside0.mk (ER.out.trans (by rw [if_pos (Or.inl c1), if_neg c0]))
              go_wp2_with (first
                | ((with_reducible refine gate_dst (N := 53) rfl ?_); refine ld_arr rfl 40 (.tmp 4) rfl W0.heap.size rfl Q1.out Try.underlying40 (m := 16) (by kernel_rfl) L1.out ?_)
                | (refine st_arr rfl 40 (.tmp 1) (.tmp 53) rfl w.heap.size (xs := ps.set 15 (a - 32768)) rfl rfl (P1.out.blk 0 rfl) (m := 16) (by kernel_rfl) L1.out (by rw [YL.out, L1.out]) ?_; intro w2 h1 h2 h4 h3; have S5 := Aside0.mk (P1.out.row 0 rfl h1 h2 h3); clear h1 h2 h3 h4))
              go_roundg (2 - (n + 1))
              case measure => omega
              case rel => exact ⟨n + 1, by omega, by omega, by go_num, by rw [EN.out, E2.out]; exact S5⟩
            · have E2 := Aside0.mk (ER.out.trans (by rw [if_neg (by omega)]))
              go_wp2
              go_roundg (2 - (n + 1))
              case measure => omega
              case rel => exact ⟨n + 1, by omega, by omega, by go_num, by rw [EN.out, E2.out]; exact S4⟩
    · obtain rfl : n = 2 := by omega
      have hneg : ¬ ((2 : Nat) : Int) < 2 := by omega
      have B0 := Aside0.mk (S.out.blk 0 rfl)
      have B1 := Aside0.mk (S.out.blk 1 rfl)
      have L := Aside0.mk (lstN_bs xs HB.out HL.out 2).2
      go_wp2_with (first
        | ((with_reducible refine gate_dst (N := 54) rfl ?_); refine ld_arr rfl 40 (.tmp 1) rfl w.heap.size rfl B0.out Try.underlying40 (m := 16) (by kernel_rfl) L.out ?_)
        | (refine st_arr rfl 40 (.tmp 2) (.tmp 54) rfl (w.heap.size + 1) (xs := lstN xs 2) rfl rfl B1.out (m := 16) (by kernel_rfl) L.out (by rw [L.out]; rfl) ?_; intro w' h1 h2 h4 h3; have H1 := Aside0.mk h1; have H3 := Aside0.mk h3; clear h1 h2 h3 h4))
      exact bodyPost_ret (results_cell_row Try.results80 _ _ (w.heap.size + 1) 40 _ (0, 0) _ rfl H1.out Try.underlying40 rfl (by rw [arr_size, L.out]; kernel_rfl)) rfl ⟨rfl, H3.out _ _ S.out.below (by omega)⟩


/-! ### spec_l05Bytes: function 46 -/
set_option maxHeartbeats 4000000 in
set_option maxRecDepth 100000 in
theorem spec_l05Bytes.calls (xs : List Int) (w : World) (hb : Bd xs) (hl : xs.length = 16) (ho : Ok 65536 (lstN xs 2)) :
    Calls Try.prog 46 #[.agg (arr .i64 xs)] w fun e w' => ∃ v0_ : Value, e = .returned (v0_) ∧ Kd.R (Kd.int .u8) 5 w' w.heap.size (fun _ => True) v0_ (bysS (lstN xs 2) 16) ∧ Below w.heap.size w w' := by
  have HL := Aside0.mk hl
  have S0 := Aside0.mk ((St.start w).push rfl 40 .i64 xs)
  have lc := (lstN_bs xs hb hl 2).2
  have hc := fun W => spec_l05Least.calls xs W hb hl
  clear hb hl
  generalize lstN xs 2 = ys at *
  have LC := Aside0.mk lc
  have HO := Aside0.mk ho
  have HC := Aside0.mk hc
  clear lc hc ho
  go_enter Try.func46, Try.ntmps46
  go_wp2_with (first
    | ((with_reducible refine gate_dst (N := 5) rfl ?_); refine ld_arr rfl 40 (.tmp 1) rfl w.heap.size rfl (S0.out.blk 0 rfl) Try.underlying40 (m := 16) (by kernel_rfl) HL.out ?_)
    | ((with_reducible refine (HC.out _).mono ?_); rintro e w1 ⟨rfl, hb⟩; have S1 := Aside0.mk (S0.out.step hb); clear hb S0)
    | (refine st_arr rfl 40 (.tmp 1) (.tmp 6) rfl w.heap.size (xs := ys) rfl rfl (S1.out.blk 0 rfl) (m := 16) (by kernel_rfl) LC.out (by rw [LC.out, HL.out]) ?_; intro w2 h1 h2 h4 h3; have S2 := Aside0.mk (S1.out.row 0 rfl h1 h2 h3); clear h1 h2 h3 h4 S1))
  go_loopg [3, 4] 16 (fun gg v3 v4 wr => ∃ k : Nat, k ≤ 16 ∧ 16 - k ≤ gg ∧ v4 = .int .i64 k ∧ Aside0 (St w [⟨40, .i64, ys⟩] wr) ∧ Aside0 (Kd.R (Kd.int .u8) 5 wr (w.heap.size + 1) (fun _ => True) v3 (bysS ys k)))
  case atStart =>
    exact ⟨0, by omega, by omega, rfl, ⟨S2.out.alloc _⟩, ⟨R_fresh _ _ _ S2.out.size⟩⟩
  case round =>
    obtain ⟨k, hk, hg, rfl, S, HV⟩ := hrel
    obtain ⟨Av, cv, ev⟩ := Kd.R_slice HV.out
    rw [bysS_length] at ev
    subst ev
    by_cases hlt : k < 16
    · have hlti : (k : Int) < 16 := by omega
      have hc1 := S.out.cell 0 rfl k (by rw [LC.out]; omega)
      rw [Nat.add_zero] at hc1
      have ha := getD_range HO.out k (by rw [LC.out]; omega)
      have a0 := ha.1
      have a1 : ys.getD k 0 < 65536 := ha.2
      have HL2 := Aside0.mk (bysS_length ys k)
      have BW := Aside0.mk (Below.refl (w.heap.size + 1) wr)
      have SZ := Aside0.mk S.out.size
      have eq : bysS ys (k + 1) = bysS ys k ++ [ys.getD k 0 % 256, ys.getD k 0 / 256] := rfl
      clear ha
      generalize ys.getD k 0 = a at *
      rw [← show IntKind.u8.wrap (a.tmod 256) = a % 256 from by rw [Int.tmod_eq_emod_of_nonneg a0, IntKind.wrap_u8]; omega, ← show IntKind.u8.wrap (wrap64 (a.tdiv 256)) = a / 256 from by rw [Int.tdiv_eq_ediv_of_nonneg a0, show wrap64 (a / 256) = a / 256 from by unfold wrap64; omega, IntKind.wrap_u8]; omega] at eq
      have EQ := Aside0.mk eq
      clear eq
      obtain ⟨W0, e0⟩ : ∃ W0, W0 = wr := ⟨_, rfl⟩
      subst e0
      have BWD := Aside0.mk (below_drew BW.out)
      have SZD := Aside0.mk (show w.heap.size + 1 ≤ W0.drew.heap.size from Nat.le_trans SZ.out (below_drew BW.out).size)
      --REG
      go_wp2
      refine start_ (n := 14) (S := fun w' => w'.cell? ⟨w.heap.size, k, none⟩ = some (.int .i64 a)) (ds := [11, 12]) #[false, false, false, false, false, false, false, false, false, false, false, false, false, false] (by kernel_rfl) rfl rfl (hc1) (fun hHeld => ?_)
      refine pure_ (i := 0) (N := some 12) (v := ?_) (a' := ?_) #[true, false, false, false, false, false, false, false, false, false, false, false, false, false] rfl rfl (by kernel_rfl) (fun _ _ _ h => h) (Or.inl ⟨by rfl, ?_⟩) ?_ ?_
      rotate_left
      · intro w'
        go_simp
        with_reducible rfl
      rotate_left
      · simp only [Act.put, List.setIfInBounds_toArray, List.set_cons_zero, List.set_cons_succ, i64_w, i32_w]
        rfl
      refine pure_ (i := 1) (N := some 13) (v := ?_) (a' := ?_) #[true, true, false, false, false, false, false, false, false, false, false, false, false, false] rfl rfl (by kernel_rfl) (fun _ _ _ h => h) (Or.inl ⟨by rfl, ?_⟩) ?_ ?_
      rotate_left
      · intro w'
        go_simp
        with_reducible rfl
      rotate_left
      · simp only [Act.put, List.setIfInBounds_toArray, List.set_cons_zero, List.set_cons_succ, i64_w, i32_w]
        rfl
      refine pure_ (i := 2) (N := some 14) (v := ?_) (a' := ?_) #[true, true, true, false, false, false, false, false, false, false, false, false, false, false] rfl rfl (by kernel_rfl) (fun _ _ _ h => h) (Or.inl ⟨by rfl, ?_⟩) ?_ ?_
      rotate_left
      · intro w'
        go_simp
        with_reducible rfl
      rotate_left
      · simp only [Act.put, List.setIfInBounds_toArray, List.set_cons_zero, List.set_cons_succ, i64_w, i32_w]
        rfl
      refine pure_ (i := 6) (N := some 18) (v := ?_) (a' := ?_) #[true, true, true, false, false, false, true, false, false, false, false, false, false, false] rfl rfl (by kernel_rfl) (fun _ _ _ h => h) (Or.inl ⟨by rfl, ?_⟩) ?_ ?_
      rotate_left
      · intro w'
        go_simp
        with_reducible rfl
      rotate_left
      · simp only [Act.put, List.setIfInBounds_toArray, List.set_cons_zero, List.set_cons_succ, i64_w, i32_w]
        rfl
      refine pure_ (i := 7) (N := some 19) (v := ?_) (a' := ?_) #[true, true, true, false, false, false, true, true, false, false, false, false, false, false] rfl rfl (by kernel_rfl) (fun _ _ _ h => h) (Or.inl ⟨by rfl, ?_⟩) ?_ ?_
      rotate_left
      · intro w'
        go_simp
        with_reducible rfl
      rotate_left
      · simp only [Act.put, List.setIfInBounds_toArray, List.set_cons_zero, List.set_cons_succ, i64_w, i32_w]
        rfl
      refine take_ (i := 3) (N := some 15) (v := ?_) (a' := ?_) #[true, true, true, true, false, false, true, true, false, false, false, false, false, false] rfl rfl (by kernel_rfl) (fun _ _ _ h => h) (Or.inl ⟨by rfl, ?_⟩) hHeld ?_ ?_
      rotate_left
      · intro w' s0
        go_simp
        with_reducible rfl
      rotate_left
      · simp only [Act.put, List.setIfInBounds_toArray, List.set_cons_zero, List.set_cons_succ, i64_w, i32_w]
        rfl
      refine pure_ (i := 4) (N := some 16) (v := ?_) (a' := ?_) #[true, true, true, true, true, false, true, true, false, false, false, false, false, false] rfl rfl (by kernel_rfl) (fun _ _ _ h => h) (Or.inl ⟨by rfl, ?_⟩) ?_ ?_
      rotate_left
      · intro w'
        go_simp
        with_reducible rfl
      rotate_left
      · simp only [Act.put, List.setIfInBounds_toArray, List.set_cons_zero, List.set_cons_succ, i64_w, i32_w]
        rfl
      refine pure_ (i := 5) (N := some 17) (v := ?_) (a' := ?_) #[true, true, true, true, true, true, true, true, false, false, false, false, false, false] rfl rfl (by kernel_rfl) (fun _ _ _ h => h) (Or.inl ⟨by rfl, ?_⟩) ?_ ?_
      rotate_left
      · intro w'
        go_simp
        with_reducible rfl
      rotate_left
      · simp only [Act.put, List.setIfInBounds_toArray, List.set_cons_zero, List.set_cons_succ, i64_w, i32_w]
        rfl
      refine take_ (i := 8) (N := some 20) (v := ?_) (a' := ?_) #[true, true, true, true, true, true, true, true, true, false, false, false, false, false] rfl rfl (by kernel_rfl) (fun _ _ _ h => h) (Or.inl ⟨by rfl, ?_⟩) hHeld ?_ ?_
      rotate_left
      · intro w' s0
        go_simp
        with_reducible rfl
      rotate_left
      · simp only [Act.put, List.setIfInBounds_toArray, List.set_cons_zero, List.set_cons_succ, i64_w, i32_w]
        rfl
      refine pure_ (i := 9) (N := some 21) (v := ?_) (a' := ?_) #[true, true, true, true, true, true, true, true, true, true, false, false, false, false] rfl rfl (by kernel_rfl) (fun _ _ _ h => h) (Or.inl ⟨by rfl, ?_⟩) ?_ ?_
      rotate_left
      · intro w'
        go_simp
        with_reducible rfl
      rotate_left
      · simp only [Act.put, List.setIfInBounds_toArray, List.set_cons_zero, List.set_cons_succ, i64_w, i32_w]
        rfl
      refine pure_ (i := 10) (N := some 22) (v := ?_) (a' := ?_) #[true, true, true, true, true, true, true, true, true, true, true, false, false, false] rfl rfl (by kernel_rfl) (fun _ _ _ h => h) (Or.inl ⟨by rfl, ?_⟩) ?_ ?_
      rotate_left
      · intro w'
        go_simp
        with_reducible rfl
      rotate_left
      · simp only [Act.put, List.setIfInBounds_toArray, List.set_cons_zero, List.set_cons_succ, i64_w, i32_w]
        rfl
      refine last_ (i := 11) (N := some 23) #[true, true, true, true, true, true, true, true, true, true, true, true, false, false] rfl rfl (by kernel_rfl) (by decide) (fun K hK => ?_)
      refine Kd.R_lit_step (Kd.int .u8) _ 5 (by rfl) (N := 23) rfl (xs := ([IntKind.u8.wrap (a.tmod 256), IntKind.u8.wrap (wrap64 (a.tdiv 256))] : List Int)) (inner := [.int .u8 (IntKind.u8.wrap (a.tmod 256)), .int .u8 (IntKind.u8.wrap (wrap64 (a.tdiv 256)))]) (ok := fun _ => True) (okp := fun _ => True) ?hr ?hp (fun _ hk => hk) trivial (Below.refl _ _) (Nat.le_refl _) (by simp) ?_
      case hr => first | (go_simp; done) | (go_simp; rfl)
      case hp => exact (Reps.one (show Kd.M (Kd.int .u8) _ _ _ (IntKind.u8.wrap (a.tmod 256)) [.int .u8 (IntKind.u8.wrap (a.tmod 256))] from rfl) (Reps.one (show Kd.M (Kd.int .u8) _ _ _ (IntKind.u8.wrap (wrap64 (a.tdiv 256))) [.int .u8 (IntKind.u8.wrap (wrap64 (a.tdiv 256)))] from rfl) (Reps.none _ _)))
      intro v5 w5 ho6 hb hg_ hnew_
      clear hg_ hnew_
      have n0_ := Aside0.mk (Kd.R_below (by (with_reducible repeat (first | apply Kd.R_alloc | apply Kd.R_drewN | apply Kd.R_drew)); exact HV.out) hb)
      have n1_ := Aside0.mk (Kd.R_lower (base' := w.heap.size + 1) ho6 SZD.out)
      have n2_ := Aside0.mk (below_stepB BWD.out hb SZD.out)
      clear hb HV BW
      have HV := n0_
      have HN := n1_
      have BW := n2_
      clear n0_ n1_ n2_ ho6
      obtain ⟨An, cn, en⟩ := Kd.R_slice HN.out
      rw [show ([IntKind.u8.wrap (a.tmod 256), IntKind.u8.wrap (wrap64 (a.tdiv 256))] : List Int).length = 2 from rfl] at en
      subst en
      refine hK.out _ _ ?_
      clear hK K
      refine norm_ (a' := ?_) ?_ ?_
      rotate_left
      · show Act.put _ (some 23) _ = _
        simp only [Act.put, List.setIfInBounds_toArray, List.set_cons_zero, List.set_cons_succ, i64_w, i32_w]
        rfl
      refine last_ (i := 12) (N := some 24) #[true, true, true, true, true, true, true, true, true, true, true, true, true, false] rfl rfl (by kernel_rfl) (by decide) (fun K hK => ?_)
      refine Kd.R_append_rows_step (Kd.int .u8) (w0 := W0) (w.heap.size + 1) (by rfl) (.tmp 12) (.tmp 23) 22 5 (.int .u8 0) 1 rfl Try.underlying22 info5 rfl (by decide) (by omega) (.slice Av (2 * k) cv) (bysS ys k) [IntKind.u8.wrap (a.tmod 256), IntKind.u8.wrap (wrap64 (a.tdiv 256))] _ _ _ (fun _ => True) (fun _ => False) rfl rfl (by (with_reducible repeat (first | apply Kd.R_alloc | apply Kd.R_drewN | apply Kd.R_drew)); exact HV.out) (Kd.R_reads' HN.out).2.2 (fun _ _ h => h) (fun _ h => h.elim) (fun _ _ => trivial) BW.out (Nat.le_trans SZ.out BW.out.size) (by have := HL2.out; omega) ?_
      intro v6 w6 ho hb hg_ hat
      rw [← EQ.out] at ho
      have HV2 := Aside0.mk ho
      have BW2 := Aside0.mk hb
      clear hg_ hat ho hb
      refine hK.out _ _ ?_
      clear hK K
      refine norm_ (a' := ?_) ?_ ?_
      rotate_left
      · show Act.put _ (some 24) _ = _
        simp only [Act.put, List.setIfInBounds_toArray, List.set_cons_zero, List.set_cons_succ, i64_w, i32_w]
        rfl
      refine pure_ (i := 13) (N := some 3) (v := ?_) (a' := ?_) #[true, true, true, true, true, true, true, true, true, true, true, true, true, true] rfl rfl (by kernel_rfl) (fun _ _ _ h => h) (Or.inl ⟨by rfl, ?_⟩) ?_ ?_
      rotate_left
      · intro w'
        go_simp
        with_reducible rfl
      rotate_left
      · simp only [Act.put, List.setIfInBounds_toArray, List.set_cons_zero, List.set_cons_succ, i64_w, i32_w]
        rfl
      refine done_ (by kernel_rfl) ?_

      go_wp2
      go_roundg (16 - (k + 1))
      case measure => omega
      case rel => exact ⟨k + 1, by omega, by omega, by go_num, ⟨S.out.stepB BW2.out⟩, ⟨(by (with_reducible repeat (first | apply Kd.R_alloc | apply Kd.R_drewN | apply Kd.R_drew)); exact HV2.out)⟩⟩
    · have hk16 : k = 16 := by omega
      have hneg : ¬ (k : Int) < 16 := by omega
      have HK := Aside0.mk hk16
      clear hk16 hk hlt
      go_wp2
      go_ret
      refine ⟨_, rfl, ?_, S.out.below⟩
      have h1 := Kd.R_lower HV.out (Nat.le_succ _)
      rw [congrArg (bysS ys) HK.out] at h1
      exact h1
set_option maxHeartbeats 1000000 in
set_option maxRecDepth 100000 in
theorem bytes_fe (c : Nat) (w : World) (hc : c < BB) :
    Calls Try.prog 46 #[.agg (arr .i64 (fe c))] w fun e w' => ∃ v0_ : Value, e = .returned (v0_) ∧ Kd.R (Kd.int .u8) 5 w' w.heap.size (fun _ => True) v0_ (limbs 256 32 (c % PP)) ∧ Below w.heap.size w w' := by
  have h := spec_l05Bytes.calls (fe c) w (fe_bd _) (fe_length _) (by rw [lstN_fe _ hc]; exact fe_ok _)
  rw [bys_fe _ hc] at h
  exact h


end Go.Proofs.Ytijeackkgcnbgaa.XT
