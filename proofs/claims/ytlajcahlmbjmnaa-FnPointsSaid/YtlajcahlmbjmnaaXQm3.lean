-- Walks of the functions that the law reaches. Joined by a program of this session. Lean checks it.
import Derived.Test.YtlajcahlmbjmnaaXQm0
import Derived.Test.YtlajcahlmbjmnaaXQm2
import Derived.Test.YtlajcahlmbjmnaaXQm1
namespace Go.Proofs.Ytlajcahlmbjmnaa.XQ
open Go.Proofs.Ytlajcahlmbjmnaa.Limb Go.Proofs.Ytlajcahlmbjmnaa.Arr Go.Proofs.Ytlajcahlmbjmnaa.FldA Go.Proofs.Ytlajcahlmbjmnaa.FldB Go.Proofs.Ytlajcahlmbjmnaa.FldC Go.Proofs.Ytlajcahlmbjmnaa.FldS Go.Proofs.Ytlajcahlmbjmnaa.FldP Go.Proofs.Ytlajcahlmbjmnaa.FldW Go.Proofs.Ytlajcahlmbjmnaa.FldM Go.Proofs.Ytlajcahlmbjmnaa.FldT Go.Proofs.Ytlajcahlmbjmnaa.FldRoot Go.Proofs.Ytlajcahlmbjmnaa.FldRoot2 Go.Proofs.Ytlajcahlmbjmnaa.FldPt Go.Proofs.Ytlajcahlmbjmnaa.St Go.Proofs.Ytlajcahlmbjmnaa.OpenS Go.Proofs.Ytlajcahlmbjmnaa.StOps Go.Proofs.Ytlajcahlmbjmnaa.StMid Go.Proofs.Ytlajcahlmbjmnaa.StEq Go.Proofs.Ytlajcahlmbjmnaa.StPt Go.Proofs.Ytlajcahlmbjmnaa.StIdx Go.Proofs.Ytlajcahlmbjmnaa.StSrc Go.Proofs.Ytlajcahlmbjmnaa.FldOps Go.Proofs.Ytlajcahlmbjmnaa.FldOpsS Go.Proofs.Ytlajcahlmbjmnaa.StChain Go.Proofs.Ytlajcahlmbjmnaa.FldLaw Go.Proofs.Ytlajcahlmbjmnaa.FldSqrt Go.Proofs.Ytlajcahlmbjmnaa.FldDec Go.Proofs.Ytlajcahlmbjmnaa.FldGrp Go.Proofs.Ytlajcahlmbjmnaa.Edw Go.Proofs.Ytlajcahlmbjmnaa.EdP
open Go.RowKit Go.Proofs.YtlajcahlmbjmnaaW.PrintWords Go.Proofs.YtlajcahlmbjmnaaW.PrintLast Go.Proofs.YtlajcahlmbjmnaaW.PrintMore
attribute [local go_sem] max2_int min2_int max_two min_two max_three min_three max_four min_four   -- for this text's walks alone
set_option linter.unusedVariables false
set_option linter.unusedSimpArgs false
mutual
def spec_l05Mod.l0 : Nat → List Int → List Int → List Int → Int → Option (List Int)
  | 0, _, _, _, _ => none
  | k + 1, x0, x3, x4, x5 => if x5 ≥ 0 then (spec_l05Mod.l1 k x0 x3 x4 x5 7) else (spec_l05Mod.l5 k x4 (([] : List Int)) 0)
def spec_l05Mod.l1 : Nat → List Int → List Int → List Int → Int → Int → Option (List Int)
  | 0, _, _, _, _, _ => none
  | k + 1, x0, x3, x4, x5, x6 => if x6 ≥ 0 then (if 0 ≤ x5 then (if x5 < (x0.length : Int) then (if 0 ≤ (IntKind.u64.wrap (x6)) then (spec_l05Mod.l2 k x0 x3 x4 x5 x6 (Go.bits .and .i64 (shr .i64 (wrap64 (rd x0 x5)) (IntKind.u64.wrap (x6))) 1) 0) else (none)) else (none)) else (none)) else (spec_l05Mod.l0 k x0 x3 x4 (wrap64 (x5 - 1)))
def spec_l05Mod.l2 : Nat → List Int → List Int → List Int → Int → Int → Int → Int → Option (List Int)
  | 0, _, _, _, _, _, _, _ => none
  | k + 1, x0, x3, x4, x5, x6, x7, x8 => if x8 < 33 then (if 0 ≤ x8 then (if x8 < (x4.length : Int) then (spec_l05Mod.l2 k x0 x3 (x4.set (x8 : Int).toNat (Int.tmod (wrap64 ((wrap64 (2 * (rd x4 x8))) + x7)) 256)) x5 x6 (wrap64 (Int.tdiv (wrap64 ((wrap64 (2 * (rd x4 x8))) + x7)) 256)) (wrap64 (x8 + 1))) else (none)) else (none)) else (spec_l05Mod.l3 k x0 x3 x4 x5 x6 false 32)
def spec_l05Mod.j4 : Nat → List Int → List Int → List Int → Int → Int → Bool → Option (List Int)
  | 0, _, _, _, _, _, _ => none
  | k + 1, x0, x3, x4, x5, x6, x10 => if x10 = true then (spec_l05Mod.l1 k x0 x3 x4 x5 (wrap64 (x6 - 1))) else (spec_l05Mod.l4 k x0 x3 x4 x5 x6 0 0)
def spec_l05Mod.l4 : Nat → List Int → List Int → List Int → Int → Int → Int → Int → Option (List Int)
  | 0, _, _, _, _, _, _, _ => none
  | k + 1, x0, x3, x4, x5, x6, x7, x13 => if x13 < 32 then (if 0 ≤ x13 then (if x13 < (x4.length : Int) then (if x13 < (x3.length : Int) then (if (wrap64 ((wrap64 ((rd x4 x13) - (wrap64 (rd x3 x13)))) - x7)) < 0 then (spec_l05Mod.l4 k x0 x3 (x4.set (x13 : Int).toNat (wrap64 ((wrap64 ((wrap64 ((rd x4 x13) - (wrap64 (rd x3 x13)))) - x7)) + 256))) x5 x6 1 (wrap64 (x13 + 1))) else (spec_l05Mod.l4 k x0 x3 (x4.set (x13 : Int).toNat (wrap64 ((wrap64 ((rd x4 x13) - (wrap64 (rd x3 x13)))) - x7))) x5 x6 0 (wrap64 (x13 + 1)))) else (none)) else (none)) else (none)) else (if 32 < (x4.length : Int) then (spec_l05Mod.l1 k x0 x3 (x4.set (32 : Int).toNat (wrap64 ((rd x4 32) - x7))) x5 (wrap64 (x6 - 1))) else (none))
def spec_l05Mod.l3 : Nat → List Int → List Int → List Int → Int → Int → Bool → Int → Option (List Int)
  | 0, _, _, _, _, _, _, _ => none
  | k + 1, x0, x3, x4, x5, x6, x10, x11 => if x11 ≥ 0 then (if x11 < 32 then (if 0 ≤ x11 then (if x11 < (x3.length : Int) then (if x11 < (x4.length : Int) then (if (rd x4 x11) = (wrap64 (rd x3 x11)) then (spec_l05Mod.l3 k x0 x3 x4 x5 x6 x10 (wrap64 (x11 - 1))) else (spec_l05Mod.j4 k x0 x3 x4 x5 x6 (decide ((rd x4 x11) < (wrap64 (rd x3 x11)))))) else (none)) else (none)) else (none)) else (if 0 ≤ x11 then (if x11 < (x4.length : Int) then (if (rd x4 x11) = 0 then (spec_l05Mod.l3 k x0 x3 x4 x5 x6 x10 (wrap64 (x11 - 1))) else (spec_l05Mod.j4 k x0 x3 x4 x5 x6 (decide ((rd x4 x11) < 0)))) else (none)) else (none))) else (spec_l05Mod.j4 k x0 x3 x4 x5 x6 x10)
def spec_l05Mod.l5 : Nat → List Int → List Int → Int → Option (List Int)
  | 0, _, _, _ => none
  | k + 1, x4, x15, x16 => if x16 < 32 then (if 0 ≤ x16 then (if x16 < (x4.length : Int) then (if x15.length < 140737488355328 then (spec_l05Mod.l5 k x4 (x15 ++ [(rd x4 x16) % 256]) (wrap64 (x16 + 1))) else (none)) else (none)) else (none)) else (some x15)
end
def spec_l05Mod.f (k : Nat) (l0 : List Int) : Option (List Int) := (spec_l05Order.f).bind fun t104 => (if 33 ≤ 35184372088832 then (spec_l05Mod.l0 k l0 t104 (List.replicate 33 0) (wrap64 ((l0.length : Int) - 1))) else (none))
theorem spec_l05Mod.mono_l : ∀ k, (∀ y0 y1 y2 y3, LeO (spec_l05Mod.l0 k y0 y1 y2 y3) (spec_l05Mod.l0 (k + 1) y0 y1 y2 y3)) ∧ (∀ y0 y1 y2 y3 y4, LeO (spec_l05Mod.l1 k y0 y1 y2 y3 y4) (spec_l05Mod.l1 (k + 1) y0 y1 y2 y3 y4)) ∧ (∀ y0 y1 y2 y3 y4 y5 y6, LeO (spec_l05Mod.l2 k y0 y1 y2 y3 y4 y5 y6) (spec_l05Mod.l2 (k + 1) y0 y1 y2 y3 y4 y5 y6)) ∧ (∀ y0 y1 y2 y3 y4 y5, LeO (spec_l05Mod.j4 k y0 y1 y2 y3 y4 y5) (spec_l05Mod.j4 (k + 1) y0 y1 y2 y3 y4 y5)) ∧ (∀ y0 y1 y2 y3 y4 y5 y6, LeO (spec_l05Mod.l4 k y0 y1 y2 y3 y4 y5 y6) (spec_l05Mod.l4 (k + 1) y0 y1 y2 y3 y4 y5 y6)) ∧ (∀ y0 y1 y2 y3 y4 y5 y6, LeO (spec_l05Mod.l3 k y0 y1 y2 y3 y4 y5 y6) (spec_l05Mod.l3 (k + 1) y0 y1 y2 y3 y4 y5 y6)) ∧ (∀ y0 y1 y2, LeO (spec_l05Mod.l5 k y0 y1 y2) (spec_l05Mod.l5 (k + 1) y0 y1 y2))
  | 0 => ⟨fun _ _ _ _ r h => by simp [spec_l05Mod.l0] at h, fun _ _ _ _ _ r h => by simp [spec_l05Mod.l1] at h, fun _ _ _ _ _ _ _ r h => by simp [spec_l05Mod.l2] at h, fun _ _ _ _ _ _ r h => by simp [spec_l05Mod.j4] at h, fun _ _ _ _ _ _ _ r h => by simp [spec_l05Mod.l4] at h, fun _ _ _ _ _ _ _ r h => by simp [spec_l05Mod.l3] at h, fun _ _ _ r h => by simp [spec_l05Mod.l5] at h⟩
  | k + 1 => by
    obtain ⟨ih0, ih1, ih2, ih3, ih4, ih5, ih6⟩ := spec_l05Mod.mono_l k
    refine ⟨?_, ?_, ?_, ?_, ?_, ?_, ?_⟩
    · intro y0 y1 y2 y3
      unfold spec_l05Mod.l0
      repeat' first
      | (with_reducible exact ih0 _ _ _ _)
      | (with_reducible exact ih1 _ _ _ _ _)
      | (with_reducible exact ih2 _ _ _ _ _ _ _)
      | (with_reducible exact ih3 _ _ _ _ _ _)
      | (with_reducible exact ih4 _ _ _ _ _ _ _)
      | (with_reducible exact ih5 _ _ _ _ _ _ _)
      | (with_reducible exact ih6 _ _ _)
      | (with_reducible exact LeO.refl _)
      | (with_reducible exact LeO.none _)
      | (with_reducible refine LeO.ite ?_ ?_)
      | (with_reducible refine LeO.bind ?_ (fun _ => ?_))
      | exact ih0 _ _ _ _
      | exact ih1 _ _ _ _ _
      | exact ih2 _ _ _ _ _ _ _
      | exact ih3 _ _ _ _ _ _
      | exact ih4 _ _ _ _ _ _ _
      | exact ih5 _ _ _ _ _ _ _
      | exact ih6 _ _ _
      | exact LeO.none _
      | refine LeO.ite ?_ ?_
      | refine LeO.bind ?_ (fun _ => ?_)
    · intro y0 y1 y2 y3 y4
      unfold spec_l05Mod.l1
      repeat' first
      | (with_reducible exact ih0 _ _ _ _)
      | (with_reducible exact ih1 _ _ _ _ _)
      | (with_reducible exact ih2 _ _ _ _ _ _ _)
      | (with_reducible exact ih3 _ _ _ _ _ _)
      | (with_reducible exact ih4 _ _ _ _ _ _ _)
      | (with_reducible exact ih5 _ _ _ _ _ _ _)
      | (with_reducible exact ih6 _ _ _)
      | (with_reducible exact LeO.refl _)
      | (with_reducible exact LeO.none _)
      | (with_reducible refine LeO.ite ?_ ?_)
      | (with_reducible refine LeO.bind ?_ (fun _ => ?_))
      | exact ih0 _ _ _ _
      | exact ih1 _ _ _ _ _
      | exact ih2 _ _ _ _ _ _ _
      | exact ih3 _ _ _ _ _ _
      | exact ih4 _ _ _ _ _ _ _
      | exact ih5 _ _ _ _ _ _ _
      | exact ih6 _ _ _
      | exact LeO.none _
      | refine LeO.ite ?_ ?_
      | refine LeO.bind ?_ (fun _ => ?_)
    · intro y0 y1 y2 y3 y4 y5 y6
      unfold spec_l05Mod.l2
      repeat' first
      | (with_reducible exact ih0 _ _ _ _)
      | (with_reducible exact ih1 _ _ _ _ _)
      | (with_reducible exact ih2 _ _ _ _ _ _ _)
      | (with_reducible exact ih3 _ _ _ _ _ _)
      | (with_reducible exact ih4 _ _ _ _ _ _ _)
      | (with_reducible exact ih5 _ _ _ _ _ _ _)
      | (with_reducible exact ih6 _ _ _)
      | (with_reducible exact LeO.refl _)
      | (with_reducible exact LeO.none _)
      | (with_reducible refine LeO.ite ?_ ?_)
      | (with_reducible refine LeO.bind ?_ (fun _ => ?_))
      | exact ih0 _ _ _ _
      | exact ih1 _ _ _ _ _
      | exact ih2 _ _ _ _ _ _ _
      | exact ih3 _ _ _ _ _ _
      | exact ih4 _ _ _ _ _ _ _
      | exact ih5 _ _ _ _ _ _ _
      | exact ih6 _ _ _
      | exact LeO.none _
      | refine LeO.ite ?_ ?_
      | refine LeO.bind ?_ (fun _ => ?_)
    · intro y0 y1 y2 y3 y4 y5
      unfold spec_l05Mod.j4
      repeat' first
      | (with_reducible exact ih0 _ _ _ _)
      | (with_reducible exact ih1 _ _ _ _ _)
      | (with_reducible exact ih2 _ _ _ _ _ _ _)
      | (with_reducible exact ih3 _ _ _ _ _ _)
      | (with_reducible exact ih4 _ _ _ _ _ _ _)
      | (with_reducible exact ih5 _ _ _ _ _ _ _)
      | (with_reducible exact ih6 _ _ _)
      | (with_reducible exact LeO.refl _)
      | (with_reducible exact LeO.none _)
      | (with_reducible refine LeO.ite ?_ ?_)
      | (with_reducible refine LeO.bind ?_ (fun _ => ?_))
      | exact ih0 _ _ _ _
      | exact ih1 _ _ _ _ _
      | exact ih2 _ _ _ _ _ _ _
      | exact ih3 _ _ _ _ _ _
      | exact ih4 _ _ _ _ _ _ _
      | exact ih5 _ _ _ _ _ _ _
      | exact ih6 _ _ _
      | exact LeO.none _
      | refine LeO.ite ?_ ?_
      | refine LeO.bind ?_ (fun _ => ?_)
    · intro y0 y1 y2 y3 y4 y5 y6
      unfold spec_l05Mod.l4
      repeat' first
      | (with_reducible exact ih0 _ _ _ _)
      | (with_reducible exact ih1 _ _ _ _ _)
      | (with_reducible exact ih2 _ _ _ _ _ _ _)
      | (with_reducible exact ih3 _ _ _ _ _ _)
      | (with_reducible exact ih4 _ _ _ _ _ _ _)
      | (with_reducible exact ih5 _ _ _ _ _ _ _)
      | (with_reducible exact ih6 _ _ _)
      | (with_reducible exact LeO.refl _)
      | (with_reducible exact LeO.none _)
      | (with_reducible refine LeO.ite ?_ ?_)
      | (with_reducible refine LeO.bind ?_ (fun _ => ?_))
      | exact ih0 _ _ _ _
      | exact ih1 _ _ _ _ _
      | exact ih2 _ _ _ _ _ _ _
      | exact ih3 _ _ _ _ _ _
      | exact ih4 _ _ _ _ _ _ _
      | exact ih5 _ _ _ _ _ _ _
      | exact ih6 _ _ _
      | exact LeO.none _
      | refine LeO.ite ?_ ?_
      | refine LeO.bind ?_ (fun _ => ?_)
    · intro y0 y1 y2 y3 y4 y5 y6
      unfold spec_l05Mod.l3
      repeat' first
      | (with_reducible exact ih0 _ _ _ _)
      | (with_reducible exact ih1 _ _ _ _ _)
      | (with_reducible exact ih2 _ _ _ _ _ _ _)
      | (with_reducible exact ih3 _ _ _ _ _ _)
      | (with_reducible exact ih4 _ _ _ _ _ _ _)
      | (with_reducible exact ih5 _ _ _ _ _ _ _)
      | (with_reducible exact ih6 _ _ _)
      | (with_reducible exact LeO.refl _)
      | (with_reducible exact LeO.none _)
      | (with_reducible refine LeO.ite ?_ ?_)
      | (with_reducible refine LeO.bind ?_ (fun _ => ?_))
      | exact ih0 _ _ _ _
      | exact ih1 _ _ _ _ _
      | exact ih2 _ _ _ _ _ _ _
      | exact ih3 _ _ _ _ _ _
      | exact ih4 _ _ _ _ _ _ _
      | exact ih5 _ _ _ _ _ _ _
      | exact ih6 _ _ _
      | exact LeO.none _
      | refine LeO.ite ?_ ?_
      | refine LeO.bind ?_ (fun _ => ?_)
    · intro y0 y1 y2
      unfold spec_l05Mod.l5
      repeat' first
      | (with_reducible exact ih0 _ _ _ _)
      | (with_reducible exact ih1 _ _ _ _ _)
      | (with_reducible exact ih2 _ _ _ _ _ _ _)
      | (with_reducible exact ih3 _ _ _ _ _ _)
      | (with_reducible exact ih4 _ _ _ _ _ _ _)
      | (with_reducible exact ih5 _ _ _ _ _ _ _)
      | (with_reducible exact ih6 _ _ _)
      | (with_reducible exact LeO.refl _)
      | (with_reducible exact LeO.none _)
      | (with_reducible refine LeO.ite ?_ ?_)
      | (with_reducible refine LeO.bind ?_ (fun _ => ?_))
      | exact ih0 _ _ _ _
      | exact ih1 _ _ _ _ _
      | exact ih2 _ _ _ _ _ _ _
      | exact ih3 _ _ _ _ _ _
      | exact ih4 _ _ _ _ _ _ _
      | exact ih5 _ _ _ _ _ _ _
      | exact ih6 _ _ _
      | exact LeO.none _
      | refine LeO.ite ?_ ?_
      | refine LeO.bind ?_ (fun _ => ?_)
theorem spec_l05Mod.mono : ∀ a0 k, LeO (spec_l05Mod.f k a0) (spec_l05Mod.f (k + 1) a0) := by
  intro a0 k
  obtain ⟨ih0, ih1, ih2, ih3, ih4, ih5, ih6⟩ := spec_l05Mod.mono_l k
  unfold spec_l05Mod.f
  repeat' first
      | (with_reducible exact ih0 _ _ _ _)
      | (with_reducible exact ih1 _ _ _ _ _)
      | (with_reducible exact ih2 _ _ _ _ _ _ _)
      | (with_reducible exact ih3 _ _ _ _ _ _)
      | (with_reducible exact ih4 _ _ _ _ _ _ _)
      | (with_reducible exact ih5 _ _ _ _ _ _ _)
      | (with_reducible exact ih6 _ _ _)
      | (with_reducible exact LeO.refl _)
      | (with_reducible exact LeO.none _)
      | (with_reducible refine LeO.ite ?_ ?_)
      | (with_reducible refine LeO.bind ?_ (fun _ => ?_))
      | exact ih0 _ _ _ _
      | exact ih1 _ _ _ _ _
      | exact ih2 _ _ _ _ _ _ _
      | exact ih3 _ _ _ _ _ _
      | exact ih4 _ _ _ _ _ _ _
      | exact ih5 _ _ _ _ _ _ _
      | exact ih6 _ _ _
      | exact LeO.none _
      | refine LeO.ite ?_ ?_
      | refine LeO.bind ?_ (fun _ => ?_)
set_option maxHeartbeats 8000000 in
set_option maxRecDepth 100000 in
theorem spec_l05Mod.calls (k : Nat) (A0 : Option Addr) (c0 : Nat) (l0 : List Int) (r : List Int) (w : World) (hr0 : Kd.C (Kd.int .u8) w A0 l0.length l0) (hc0 : l0.length ≤ c0) (h : spec_l05Mod.f k l0 = some r) :
    Calls Try.prog 59 #[.slice A0 l0.length c0] w fun e w' => ∃ v0_ : Value, e = .returned (v0_) ∧ Kd.R (Kd.int .u8) 5 w' w.heap.size (fun _ => True) v0_ r ∧ Below w.heap.size w w' := by
  have HR0 := Aside0.mk hr0
  have HC0 := Aside0.mk hc0
  clear hr0 hc0
  have HB := Aside0.mk (Below.refl w.heap.size w)
  have H : ((spec_l05Order.f).bind fun t104 => (if 33 ≤ 35184372088832 then (spec_l05Mod.l0 k l0 t104 (List.replicate 33 0) (wrap64 ((l0.length : Int) - 1))) else (none))) = some r := h
  clear h
  replace H := Option.bind_eq_some_iff.mp H
  obtain ⟨t104, A20, H⟩ := H
  replace H : (if 33 ≤ 35184372088832 then (spec_l05Mod.l0 k l0 t104 (List.replicate 33 0) (wrap64 ((l0.length : Int) - 1))) else (none)) = some r := H
  have A2 := Aside0.mk A20
  clear A20
  by_cases c3 : 33 ≤ 35184372088832
  · rw [if_pos c3] at H
    have c3b0 := eq_true c3
    have c3b1 : decide (33 ≤ 35184372088832) = true := decide_eq_true c3
    clear c3
    obtain ⟨y107, hy107⟩ : ∃ y_ : List Int, y_ = (List.replicate 33 0) := ⟨_, rfl⟩
    replace H : (spec_l05Mod.l0 k l0 t104 y107 (wrap64 ((l0.length : Int) - 1))) = some r := by first | (rw [hy107]; with_reducible exact H) | (have H2_ := (Option.bind_some _ _).symm.trans H; rw [hy107]; with_reducible exact H2_) | (have H2_ := (Option.bind_some _ _).symm.trans H; with_reducible exact H2_) | with_reducible exact H | (rw [hy107]; exact H) | exact H
    have Ny107 := Aside0.mk hy107
    clear hy107
    have H' := Aside0.mk H
    clear H
    go_enter Try.func59, Try.ntmps59
    go_wp2_with (first | (go_at_call 80; (with_reducible refine (spec_l05Order.calls  t104 _ A2.out).mono ?_); rintro e w4 ⟨v105, rfl, ho0, hb⟩; have n0_ := Aside0.mk (Kd.R_lower ho0 (below_size (by repeat (first | (with_reducible first | exact HB.out | apply below_alloc | apply pw_below_drewN | apply below_drew1) | exact HB.out)))); have n1_ := Aside0.mk (below_step (by repeat (first | (with_reducible first | exact HB.out | apply below_alloc | apply pw_below_drewN | apply below_drew1) | exact HB.out)) hb); clear HB; have HO106 := n0_; have HB := n1_; clear n0_ n1_; (try clear hb); (try clear hb2); (try clear hk); (try clear hi); (try clear ho0)) | ((with_reducible refine gate_dst (N := 18) rfl ?_); refine Kd.R_make (Kd.int .i64) _ 3 rfl (N := 18) rfl 91 _ _ rfl 33 rfl rfl Try.underlying91 (.int .i64 0) 8 info3 rfl (by decide) (by omega) 0 (ok := fun _ => True) (okp := fun _ => True) rfl (fun _ hk => hk) trivial (by omega) (by omega) (Below.refl _ _) (Nat.le_refl _) ?_; intro v108 w5 ho6 hb hg_ hnew_; clear hg_ hnew_; (first | rw [← Ny107.out] at ho6 | (simp only [Int.reduceToNat] at ho6; rw [← Ny107.out] at ho6)); have n0_ := Aside0.mk (Kd.R_below (by (with_reducible repeat (first | apply Kd.R_alloc | apply Kd.R_drewN | apply Kd.R_drew)); exact HO106.out) hb); have n1_ := Aside0.mk (Kd.R_lower ho6 (below_size (by repeat (first | (with_reducible first | exact HB.out | apply below_alloc | apply pw_below_drewN | apply below_drew1) | exact HB.out)))); have n2_ := Aside0.mk (below_step (by repeat (first | (with_reducible first | exact HB.out | apply below_alloc | apply pw_below_drewN | apply below_drew1) | exact HB.out)) hb); clear HO106; clear HB; have HO106 := n0_; have HO109 := n1_; have HB := n2_; clear n0_ n1_ n2_; clear hb ho6))
    repeat (go_quiet (first | (go_at_call 80; (with_reducible refine (spec_l05Order.calls  t104 _ A2.out).mono ?_); rintro e w4 ⟨v105, rfl, ho0, hb⟩; have n0_ := Aside0.mk (Kd.R_lower ho0 (below_size (by repeat (first | (with_reducible first | exact HB.out | apply below_alloc | apply pw_below_drewN | apply below_drew1) | exact HB.out)))); have n1_ := Aside0.mk (below_step (by repeat (first | (with_reducible first | exact HB.out | apply below_alloc | apply pw_below_drewN | apply below_drew1) | exact HB.out)) hb); clear HB; have HO106 := n0_; have HB := n1_; clear n0_ n1_; (try clear hb); (try clear hb2); (try clear hk); (try clear hi); (try clear ho0)) | ((with_reducible refine gate_dst (N := 18) rfl ?_); refine Kd.R_make (Kd.int .i64) _ 3 rfl (N := 18) rfl 91 _ _ rfl 33 rfl rfl Try.underlying91 (.int .i64 0) 8 info3 rfl (by decide) (by omega) 0 (ok := fun _ => True) (okp := fun _ => True) rfl (fun _ hk => hk) trivial (by omega) (by omega) (Below.refl _ _) (Nat.le_refl _) ?_; intro v108 w5 ho6 hb hg_ hnew_; clear hg_ hnew_; (first | rw [← Ny107.out] at ho6 | (simp only [Int.reduceToNat] at ho6; rw [← Ny107.out] at ho6)); have n0_ := Aside0.mk (Kd.R_below (by (with_reducible repeat (first | apply Kd.R_alloc | apply Kd.R_drewN | apply Kd.R_drew)); exact HO106.out) hb); have n1_ := Aside0.mk (Kd.R_lower ho6 (below_size (by repeat (first | (with_reducible first | exact HB.out | apply below_alloc | apply pw_below_drewN | apply below_drew1) | exact HB.out)))); have n2_ := Aside0.mk (below_step (by repeat (first | (with_reducible first | exact HB.out | apply below_alloc | apply pw_below_drewN | apply below_drew1) | exact HB.out)) hb); clear HO106; clear HB; have HO106 := n0_; have HO109 := n1_; have HB := n2_; clear n0_ n1_ n2_; clear hb ho6)); try go_wp2_with (first | (go_at_call 80; (with_reducible refine (spec_l05Order.calls  t104 _ A2.out).mono ?_); rintro e w4 ⟨v105, rfl, ho0, hb⟩; have n0_ := Aside0.mk (Kd.R_lower ho0 (below_size (by repeat (first | (with_reducible first | exact HB.out | apply below_alloc | apply pw_below_drewN | apply below_drew1) | exact HB.out)))); have n1_ := Aside0.mk (below_step (by repeat (first | (with_reducible first | exact HB.out | apply below_alloc | apply pw_below_drewN | apply below_drew1) | exact HB.out)) hb); clear HB; have HO106 := n0_; have HB := n1_; clear n0_ n1_; (try clear hb); (try clear hb2); (try clear hk); (try clear hi); (try clear ho0)) | ((with_reducible refine gate_dst (N := 18) rfl ?_); refine Kd.R_make (Kd.int .i64) _ 3 rfl (N := 18) rfl 91 _ _ rfl 33 rfl rfl Try.underlying91 (.int .i64 0) 8 info3 rfl (by decide) (by omega) 0 (ok := fun _ => True) (okp := fun _ => True) rfl (fun _ hk => hk) trivial (by omega) (by omega) (Below.refl _ _) (Nat.le_refl _) ?_; intro v108 w5 ho6 hb hg_ hnew_; clear hg_ hnew_; (first | rw [← Ny107.out] at ho6 | (simp only [Int.reduceToNat] at ho6; rw [← Ny107.out] at ho6)); have n0_ := Aside0.mk (Kd.R_below (by (with_reducible repeat (first | apply Kd.R_alloc | apply Kd.R_drewN | apply Kd.R_drew)); exact HO106.out) hb); have n1_ := Aside0.mk (Kd.R_lower ho6 (below_size (by repeat (first | (with_reducible first | exact HB.out | apply below_alloc | apply pw_below_drewN | apply below_drew1) | exact HB.out)))); have n2_ := Aside0.mk (below_step (by repeat (first | (with_reducible first | exact HB.out | apply below_alloc | apply pw_below_drewN | apply below_drew1) | exact HB.out)) hb); clear HO106; clear HB; have HO106 := n0_; have HO109 := n1_; have HB := n2_; clear n0_ n1_ n2_; clear hb ho6)))
    go_loopg [5] k (fun kq v5 w' => ∃ (x4_1 : List Int) (x5_1 : Int), v5 = .int .i64 x5_1 ∧ Aside0 (spec_l05Mod.l0 kq l0 t104 x4_1 x5_1 = some r) ∧ Aside0 (kq ≤ k) ∧ Aside0 (Kd.R (Kd.int .u8) 5 w' w.heap.size (fun _ => True) v105 t104) ∧ Aside0 (Kd.R (Kd.int .i64) 3 w' w.heap.size (fun _ => True) v108 x4_1) ∧ Aside0 (Below w.heap.size w w'))
    case atStart => exact ⟨(y107), (wrap64 ((l0.length : Int) - 1)), (by first | rfl | (simp; done) | (simp [*]; done)), H', ⟨Nat.le_refl _⟩, ⟨by (with_reducible repeat (first | apply Kd.R_alloc | apply Kd.R_drewN | apply Kd.R_drew)); exact HO106.out⟩, ⟨by (with_reducible repeat (first | apply Kd.R_alloc | apply Kd.R_drewN | apply Kd.R_drew)); exact HO109.out⟩, ⟨by repeat (first | (with_reducible first | exact HB.out | apply below_alloc | apply pw_below_drewN | apply below_drew1) | exact HB.out)⟩⟩
    case round =>
      clear H'
      try clear p2
      try clear c3
      try clear c3b0
      try clear c3b1
      try clear c5
      try clear p6
      obtain ⟨x4_1, x5_1, rfl, HA, HK1, HO_3, HO_4, HB⟩ := hrel
      cases gk with
      | zero => exact absurd HA.out (by simp [spec_l05Mod.l0])
      | succ k1 =>
        have H := HA.out
        clear HA
        simp only [spec_l05Mod.l0] at H
        by_cases c7 : x5_1 ≥ 0
        · rw [if_pos c7] at H
          have c7b0 : decide (0 ≤ x5_1) = true := decide_eq_true c7
          clear c7
          have H' := Aside0.mk H
          clear H
          go_wp2
          repeat (go_quiet (fail); try go_wp2)
          go_loopg [6] k1 (fun kq v6 w' => ∃ (x4_2 : List Int) (x6_2 : Int), v6 = .int .i64 x6_2 ∧ Aside0 (spec_l05Mod.l1 kq l0 t104 x4_2 x5_1 x6_2 = some r) ∧ Aside0 (kq ≤ k1) ∧ Aside0 (Kd.R (Kd.int .u8) 5 w' w.heap.size (fun _ => True) v105 t104) ∧ Aside0 (Kd.R (Kd.int .i64) 3 w' w.heap.size (fun _ => True) v108 x4_2) ∧ Aside0 (Below w.heap.size w w'))
          case atStart => exact ⟨(x4_1), (7), (by first | rfl | (simp; done) | (simp [*]; done)), H', ⟨Nat.le_refl _⟩, ⟨by (with_reducible repeat (first | apply Kd.R_alloc | apply Kd.R_drewN | apply Kd.R_drew)); exact HO_3.out⟩, ⟨by (with_reducible repeat (first | apply Kd.R_alloc | apply Kd.R_drewN | apply Kd.R_drew)); exact HO_4.out⟩, ⟨by repeat (first | (with_reducible first | exact HB.out | apply below_alloc | apply pw_below_drewN | apply below_drew1) | exact HB.out)⟩⟩
          case round =>
            clear H'
            try clear p2
            try clear c3
            try clear c3b0
            try clear c3b1
            try clear c5
            try clear p6
            try clear c7
            try clear c7b0
            try clear p2
            try clear p6
            obtain ⟨x4_2, x6_2, rfl, HA, HK2, HO_3, HO_4, HB⟩ := hrel
            cases gk with
            | zero => exact absurd HA.out (by simp [spec_l05Mod.l1])
            | succ k2 =>
              have H := HA.out
              clear HA
              simp only [spec_l05Mod.l1] at H
              by_cases c8 : x6_2 ≥ 0
              · rw [if_pos c8] at H
                have c8b0 : decide (0 ≤ x6_2) = true := decide_eq_true c8
                clear c8
                by_cases c9 : 0 ≤ x5_1
                · rw [if_pos c9] at H
                  have c9b0 : decide (0 ≤ x5_1) = true := decide_eq_true c9
                  clear c9
                  by_cases c10 : x5_1 < (l0.length : Int)
                  · rw [if_pos c10] at H
                    have c10b0 : decide (x5_1 < (l0.length : Int)) = true := decide_eq_true c10
                    clear c10
                    obtain ⟨ji11, hji11⟩ : ∃ j_ : Int, (IntKind.u64.wrap (x6_2)) = j_ := ⟨_, rfl⟩
                    replace H : (if 0 ≤ (ji11) then (spec_l05Mod.l2 k2 l0 t104 x4_2 x5_1 x6_2 (Go.bits .and .i64 (shr .i64 (wrap64 (rd l0 x5_1)) (ji11)) 1) 0) else (none)) = some r := by first | (rw [hji11] at H; exact H) | (simp only [hji11] at H ⊢; exact H)
                    by_cases c12 : 0 ≤ (ji11)
                    · rw [if_pos c12] at H
                      have c12b0 := eq_true c12
                      have c12b1 : decide (0 ≤ (ji11)) = true := decide_eq_true c12
                      clear c12
                      obtain ⟨ji13, hji13⟩ : ∃ j_ : Int, (shr .i64 (wrap64 (rd l0 x5_1)) (ji11)) = j_ := ⟨_, rfl⟩
                      replace H : (spec_l05Mod.l2 k2 l0 t104 x4_2 x5_1 x6_2 (Go.bits .and .i64 (ji13) 1) 0) = some r := by first | (rw [hji13] at H; exact H) | (simp only [hji13] at H ⊢; exact H)
                      have hji13_ : ((wrap64 (rd l0 x5_1)) / 2 ^ min (ji11).toNat 64) = ji13 := hji13
                      have hji13z : (ji11) ≤ 64 → ((wrap64 (rd l0 x5_1)) / 2 ^ (ji11).toNat) = ji13 := shr_small hji13
                      have H' := Aside0.mk H
                      clear H
                      have p110 : 0 ≤ (x5_1 : Int) := of_decide_eq_true (by first | (with_reducible assumption) | assumption)
                      have q110 : x5_1 < (l0.length : Int) := of_decide_eq_true (by first | (with_reducible assumption) | assumption)
                      obtain ⟨ad110, e110, hx110_0⟩ := Kd.at_int HR0.out x5_1 p110 q110
                      cases e110
                      replace hx110_0 := (HB.out.cell (World.block_lt_of_cell? w _ hx110_0)).trans hx110_0
                      replace p110 := eq_true p110
                      replace q110 := eq_true q110
                      go_wp2
                      repeat (go_quiet (fail); try go_wp2)
                      go_loopg [7, 8] k2 (fun kq v7 v8 w' => ∃ (x4_3 : List Int) (x7_3 : Int) (x8_3 : Int), v7 = .int .i64 x7_3 ∧ v8 = .int .i64 x8_3 ∧ Aside0 (spec_l05Mod.l2 kq l0 t104 x4_3 x5_1 x6_2 x7_3 x8_3 = some r) ∧ Aside0 (kq ≤ k2) ∧ Aside0 (Kd.R (Kd.int .u8) 5 w' w.heap.size (fun _ => True) v105 t104) ∧ Aside0 (Kd.R (Kd.int .i64) 3 w' w.heap.size (fun _ => True) v108 x4_3) ∧ Aside0 (Below w.heap.size w w'))
                      case atStart => exact ⟨(x4_2), (Go.bits .and .i64 (ji13) 1), (0), (by first | rfl | (simp; done) | (simp only [← hji13] <;> (first | rfl | simp)) | (simp [*]; done)), (by first | rfl | (simp; done) | (simp [*]; done)), H', ⟨Nat.le_refl _⟩, ⟨by (with_reducible repeat (first | apply Kd.R_alloc | apply Kd.R_drewN | apply Kd.R_drew)); exact HO_3.out⟩, ⟨by (with_reducible repeat (first | apply Kd.R_alloc | apply Kd.R_drewN | apply Kd.R_drew)); exact HO_4.out⟩, ⟨by repeat (first | (with_reducible first | exact HB.out | apply below_alloc | apply pw_below_drewN | apply below_drew1) | exact HB.out)⟩⟩
                      case round =>
                        clear H'
                        try clear c1
                        try clear p1
                        try clear q1
                        try clear hx1
                        try clear p2
                        try clear c3
                        try clear c3b0
                        try clear c3b1
                        try clear c5
                        try clear p6
                        try clear c7
                        try clear c7b0
                        try clear c8
                        try clear c8b0
                        try clear c9
                        try clear c9b0
                        try clear c10
                        try clear c10b0
                        try clear p11
                        try clear q11
                        try clear hx11
                        try clear c12
                        try clear c12b0
                        try clear c12b1
                        try clear hx110_0
                        try clear p110
                        try clear p2
                        try clear p6
                        try clear q110
                        obtain ⟨x4_3, x7_3, x8_3, rfl, rfl, HA, HK3, HO_3, HO_4, HB⟩ := hrel
                        cases gk with
                        | zero => exact absurd HA.out (by simp [spec_l05Mod.l2])
                        | succ k3 =>
                          have H := HA.out
                          clear HA
                          simp only [spec_l05Mod.l2] at H
                          by_cases c14 : x8_3 < 33
                          · rw [if_pos c14] at H
                            have c14b0 : decide (x8_3 < 33) = true := decide_eq_true c14
                            clear c14
                            by_cases c15 : 0 ≤ x8_3
                            · rw [if_pos c15] at H
                              have c15b0 : decide (0 ≤ x8_3) = true := decide_eq_true c15
                              clear c15
                              by_cases c16 : x8_3 < (x4_3.length : Int)
                              · rw [if_pos c16] at H
                                have c16b0 : decide (x8_3 < (x4_3.length : Int)) = true := decide_eq_true c16
                                clear c16
                                obtain ⟨y112, hy112⟩ : ∃ y_ : List Int, y_ = (x4_3.set (x8_3 : Int).toNat (Int.tmod (wrap64 ((wrap64 (2 * (rd x4_3 x8_3))) + x7_3)) 256)) := ⟨_, rfl⟩
                                replace H : (spec_l05Mod.l2 k3 l0 t104 y112 x5_1 x6_2 (wrap64 (Int.tdiv (wrap64 ((wrap64 (2 * (rd x4_3 x8_3))) + x7_3)) 256)) (wrap64 (x8_3 + 1))) = some r := by first | (rw [hy112]; with_reducible exact H) | (have H2_ := (Option.bind_some _ _).symm.trans H; rw [hy112]; with_reducible exact H2_) | (have H2_ := (Option.bind_some _ _).symm.trans H; with_reducible exact H2_) | with_reducible exact H | (rw [hy112]; exact H) | exact H
                                have Ny112 := Aside0.mk hy112
                                clear hy112
                                have H' := Aside0.mk H
                                clear H
                                obtain ⟨Ao18, co18, eo18⟩ := Kd.R_slice HO_4.out
                                subst eo18
                                have p111 : 0 ≤ (x8_3 : Int) := of_decide_eq_true (by first | (with_reducible assumption) | assumption)
                                have q111 : x8_3 < (x4_3.length : Int) := of_decide_eq_true (by first | (with_reducible assumption) | assumption)
                                obtain ⟨ad111, e111, hx111_0⟩ := Kd.at_int (Kd.R_reads' HO_4.out).2.2 x8_3 p111 q111
                                cases e111
                                replace p111 := eq_true p111
                                replace q111 := eq_true q111
                                have p17 : 0 ≤ (x8_3 : Int) := of_decide_eq_true (by first | (with_reducible assumption) | assumption)
                                have q17 : (x8_3 : Int) < ((x4_3.length : Int) : Int) := of_decide_eq_true (by first | (with_reducible assumption) | assumption)
                                obtain ⟨go17, co17, eo17, gb17, gl17, cl17, HG17⟩ := Kd.R_form HO_4.out (by omega)
                                (first | cases eo17 | (injection eo17 with ea_ en_ ec_; (first | subst ea_ | (injection ea_ with ea_; subst ea_)); subst ec_; clear en_))
                                have GB17 := Aside0.mk gb17
                                have GG17 := Aside0.mk HG17
                                clear gb17 gl17 HG17
                                (first | simp only [add_plain] at hx111_0 | skip)
                                obtain ⟨hx17_0, hf17_0⟩ := Kd.R_celln 0 HO_4.out (x8_3 : Int) p17 q17
                                replace p17 := eq_true p17
                                replace q17 := eq_true q17
                                have HP19 := Kd.R_putg HO_4.out (x8_3 : Int) (Int.tmod (wrap64 ((wrap64 (2 * (rd x4_3 x8_3))) + x7_3)) 256)
                                go_wp2_with (first | ((with_reducible refine gate_store (t := 3) (p := 54) rfl ?_); (try (rw [drewN_self wr]; generalize hq_ : World.drewN wr _ = wr; have n0_ := Aside0.mk (Kd.R_at hq_ HO_3.out); have n1_ := Aside0.mk (Kd.R_at hq_ HO_4.out); have n2_ := Aside0.mk (below_at hq_ HB.out); clear hq_ HO_3 HO_4 HB; have HO_3 := n0_; have HO_4 := n1_; have HB := n2_; clear n0_ n1_ n2_; (try (have HP19 := Kd.R_putg HO_4.out (x8_3 : Int) (Int.tmod (wrap64 ((wrap64 (2 * (rd x4_3 x8_3))) + x7_3)) 256))); (try (have hcf_ := Kd.R_celln 0 HO_4.out (x8_3 : Int) (of_eq_true p17) (of_eq_true q17); obtain ⟨_, hcg_⟩ := hcf_)))); refine store_event (t := 3) (p := 54) (v := ?vo_w20) (w1 := (wr.setCell ⟨go17, (x8_3 : Int).toNat, none⟩ (.int .i64 (Int.tmod (wrap64 ((wrap64 (2 * (rd x4_3 x8_3))) + x7_3)) 256)))) ?hg ?ho ?hn ?hr ?_; (case ho => rfl); (case hg => rfl); (case hn => rfl); (case hr => first | (go_simp; done) | (go_simp; rfl)); intro w20 hw; have hg : wr.grownBy w20 (some go17) := (by rw [hw]; exact HP19.2); have hp_ : Kd.R (Kd.int .i64) 3 w20 w.heap.size (fun _ => True) (.slice (some ⟨go17, 0, none⟩) x4_3.length co18) y112 := (by rw [hw, Ny112.out]; exact HP19.1); clear HP19; have n0_ := Aside0.mk (Kd.R_over' (v := (.slice (some ⟨go17, 0, none⟩) x4_3.length co18)) (by (with_reducible repeat (first | apply Kd.R_alloc | apply Kd.R_drewN | apply Kd.R_drew)); exact HO_3.out) (Kd.R_typed HO_4.out) (by decide) hg); have n1_ := Aside0.mk (hp_); have n2_ := Aside0.mk ((by rw [hw]; exact below_set (HB.out) GB17.out : Below w.heap.size w w20)); clear HO_3; clear HO_4; clear HB; have HO_3 := n0_; have HO_4 := n1_; have HB := n2_; clear n0_ n1_ n2_; clear hg hw hp_))
                                repeat (go_quiet (first | ((with_reducible refine gate_store (t := 3) (p := 54) rfl ?_); (try (rw [drewN_self wr]; generalize hq_ : World.drewN wr _ = wr; have n0_ := Aside0.mk (Kd.R_at hq_ HO_3.out); have n1_ := Aside0.mk (Kd.R_at hq_ HO_4.out); have n2_ := Aside0.mk (below_at hq_ HB.out); clear hq_ HO_3 HO_4 HB; have HO_3 := n0_; have HO_4 := n1_; have HB := n2_; clear n0_ n1_ n2_; (try (have HP19 := Kd.R_putg HO_4.out (x8_3 : Int) (Int.tmod (wrap64 ((wrap64 (2 * (rd x4_3 x8_3))) + x7_3)) 256))); (try (have hcf_ := Kd.R_celln 0 HO_4.out (x8_3 : Int) (of_eq_true p17) (of_eq_true q17); obtain ⟨_, hcg_⟩ := hcf_)))); refine store_event (t := 3) (p := 54) (v := ?vo_w20) (w1 := (wr.setCell ⟨go17, (x8_3 : Int).toNat, none⟩ (.int .i64 (Int.tmod (wrap64 ((wrap64 (2 * (rd x4_3 x8_3))) + x7_3)) 256)))) ?hg ?ho ?hn ?hr ?_; (case ho => rfl); (case hg => rfl); (case hn => rfl); (case hr => first | (go_simp; done) | (go_simp; rfl)); intro w20 hw; have hg : wr.grownBy w20 (some go17) := (by rw [hw]; exact HP19.2); have hp_ : Kd.R (Kd.int .i64) 3 w20 w.heap.size (fun _ => True) (.slice (some ⟨go17, 0, none⟩) x4_3.length co18) y112 := (by rw [hw, Ny112.out]; exact HP19.1); clear HP19; have n0_ := Aside0.mk (Kd.R_over' (v := (.slice (some ⟨go17, 0, none⟩) x4_3.length co18)) (by (with_reducible repeat (first | apply Kd.R_alloc | apply Kd.R_drewN | apply Kd.R_drew)); exact HO_3.out) (Kd.R_typed HO_4.out) (by decide) hg); have n1_ := Aside0.mk (hp_); have n2_ := Aside0.mk ((by rw [hw]; exact below_set (HB.out) GB17.out : Below w.heap.size w w20)); clear HO_3; clear HO_4; clear HB; have HO_3 := n0_; have HO_4 := n1_; have HB := n2_; clear n0_ n1_ n2_; clear hg hw hp_)); try go_wp2_with (first | ((with_reducible refine gate_store (t := 3) (p := 54) rfl ?_); (try (rw [drewN_self wr]; generalize hq_ : World.drewN wr _ = wr; have n0_ := Aside0.mk (Kd.R_at hq_ HO_3.out); have n1_ := Aside0.mk (Kd.R_at hq_ HO_4.out); have n2_ := Aside0.mk (below_at hq_ HB.out); clear hq_ HO_3 HO_4 HB; have HO_3 := n0_; have HO_4 := n1_; have HB := n2_; clear n0_ n1_ n2_; (try (have HP19 := Kd.R_putg HO_4.out (x8_3 : Int) (Int.tmod (wrap64 ((wrap64 (2 * (rd x4_3 x8_3))) + x7_3)) 256))); (try (have hcf_ := Kd.R_celln 0 HO_4.out (x8_3 : Int) (of_eq_true p17) (of_eq_true q17); obtain ⟨_, hcg_⟩ := hcf_)))); refine store_event (t := 3) (p := 54) (v := ?vo_w20) (w1 := (wr.setCell ⟨go17, (x8_3 : Int).toNat, none⟩ (.int .i64 (Int.tmod (wrap64 ((wrap64 (2 * (rd x4_3 x8_3))) + x7_3)) 256)))) ?hg ?ho ?hn ?hr ?_; (case ho => rfl); (case hg => rfl); (case hn => rfl); (case hr => first | (go_simp; done) | (go_simp; rfl)); intro w20 hw; have hg : wr.grownBy w20 (some go17) := (by rw [hw]; exact HP19.2); have hp_ : Kd.R (Kd.int .i64) 3 w20 w.heap.size (fun _ => True) (.slice (some ⟨go17, 0, none⟩) x4_3.length co18) y112 := (by rw [hw, Ny112.out]; exact HP19.1); clear HP19; have n0_ := Aside0.mk (Kd.R_over' (v := (.slice (some ⟨go17, 0, none⟩) x4_3.length co18)) (by (with_reducible repeat (first | apply Kd.R_alloc | apply Kd.R_drewN | apply Kd.R_drew)); exact HO_3.out) (Kd.R_typed HO_4.out) (by decide) hg); have n1_ := Aside0.mk (hp_); have n2_ := Aside0.mk ((by rw [hw]; exact below_set (HB.out) GB17.out : Below w.heap.size w w20)); clear HO_3; clear HO_4; clear HB; have HO_3 := n0_; have HO_4 := n1_; have HB := n2_; clear n0_ n1_ n2_; clear hg hw hp_)))
                                go_roundg k3
                                case measure => have := HK1.out; have := HK2.out; have := HK3.out; omega
                                case rel => exact ⟨(y112), (wrap64 (Int.tdiv (wrap64 ((wrap64 (2 * (rd x4_3 x8_3))) + x7_3)) 256)), (wrap64 (x8_3 + 1)), (by first | rfl | (simp; done) | (simp [*]; done)), (by first | rfl | (simp; done) | (simp [*]; done)), H', ⟨by have := HK1.out; have := HK2.out; have := HK3.out; omega⟩, ⟨by (with_reducible repeat (first | apply Kd.R_alloc | apply Kd.R_drewN | apply Kd.R_drew)); exact HO_3.out⟩, ⟨by (with_reducible repeat (first | apply Kd.R_alloc | apply Kd.R_drewN | apply Kd.R_drew)); exact HO_4.out⟩, ⟨by repeat (first | (with_reducible first | exact HB.out | apply below_alloc | apply pw_below_drewN | apply below_drew1) | exact HB.out)⟩⟩
                              · rw [if_neg c16] at H
                                exact absurd H (by simp)
                            · rw [if_neg c15] at H
                              exact absurd H (by simp)
                          · rw [if_neg c14] at H
                            have c14b0 : decide (x8_3 < 33) = false := decide_eq_false c14
                            clear c14
                            have HC21 := Aside0.mk H
                            clear H
                            go_upto_block 6 with (fail)
                            repeat (go_quiet (fail); go_upto_block 6 with (fail))
                            go_cut [10] (fun v10 wc => ∃ (kq : Nat) (x10_20 : Bool), v10 = .bool x10_20 ∧ Aside0 (spec_l05Mod.j4 kq l0 t104 x4_3 x5_1 x6_2 x10_20 = some r) ∧ Aside0 (kq ≤ k3) ∧ Aside0 (Kd.R (Kd.int .u8) 5 wc w.heap.size (fun _ => True) v105 t104) ∧ Aside0 (Kd.R (Kd.int .i64) 3 wc w.heap.size (fun _ => True) v108 x4_3) ∧ Aside0 (Below w.heap.size w wc))
                            case first =>
                              have H := HC21.out
                              clear HC21
                              have H' := Aside0.mk H
                              clear H
                              go_wp2
                              repeat (go_quiet (fail); try go_wp2)
                              go_loopg [10, 11] k3 (fun kq v10 v11 w' => ∃ (x10_4 : Bool) (x11_4 : Int), v10 = .bool x10_4 ∧ v11 = .int .i64 x11_4 ∧ Aside0 (spec_l05Mod.l3 kq l0 t104 x4_3 x5_1 x6_2 x10_4 x11_4 = some r) ∧ Aside0 (kq ≤ k3) ∧ Aside0 (Kd.R (Kd.int .u8) 5 w' w.heap.size (fun _ => True) v105 t104) ∧ Aside0 (Kd.R (Kd.int .i64) 3 w' w.heap.size (fun _ => True) v108 x4_3) ∧ Aside0 (Below w.heap.size w w'))
                              case atStart => exact ⟨(false), (32), (by first | rfl | (simp; done) | (simp [*]; done)), (by first | rfl | (simp; done) | (simp [*]; done)), H', ⟨Nat.le_refl _⟩, ⟨by (with_reducible repeat (first | apply Kd.R_alloc | apply Kd.R_drewN | apply Kd.R_drew)); exact HO_3.out⟩, ⟨by (with_reducible repeat (first | apply Kd.R_alloc | apply Kd.R_drewN | apply Kd.R_drew)); exact HO_4.out⟩, ⟨by repeat (first | (with_reducible first | exact HB.out | apply below_alloc | apply pw_below_drewN | apply below_drew1) | exact HB.out)⟩⟩
                              case round =>
                                clear H'
                                try clear c1
                                try clear p1
                                try clear q1
                                try clear hx1
                                try clear hf1
                                try clear p2
                                try clear c3
                                try clear c3b0
                                try clear c3b1
                                try clear c5
                                try clear p6
                                try clear c7
                                try clear c7b0
                                try clear c8
                                try clear c8b0
                                try clear c9
                                try clear c9b0
                                try clear c10
                                try clear c10b0
                                try clear p11
                                try clear q11
                                try clear hx11
                                try clear c12
                                try clear c12b0
                                try clear c12b1
                                try clear c14
                                try clear c14b0
                                try clear c15
                                try clear c15b0
                                try clear c16
                                try clear c16b0
                                try clear p17
                                try clear q17
                                try clear hx17
                                try clear hf17
                                try clear hx110_0
                                try clear hx111_0
                                try clear hx17_0
                                try clear p1
                                try clear p11
                                try clear p110
                                try clear p111
                                try clear p17
                                try clear p2
                                try clear p6
                                try clear q1
                                try clear q11
                                try clear q110
                                try clear q111
                                try clear q17
                                obtain ⟨x10_4, x11_4, rfl, rfl, HA, HK4, HO_3, HO_4, HB⟩ := hrel
                                cases gk with
                                | zero => exact absurd HA.out (by simp [spec_l05Mod.l3])
                                | succ k4 =>
                                  have H := HA.out
                                  clear HA
                                  simp only [spec_l05Mod.l3] at H
                                  by_cases c22 : x11_4 ≥ 0
                                  · rw [if_pos c22] at H
                                    have c22b0 : decide (0 ≤ x11_4) = true := decide_eq_true c22
                                    clear c22
                                    (first | rw [c22b0] | (simp only [i64_w, i32_w]; rw [c22b0]) | skip)
                                    by_cases c23 : x11_4 < 32
                                    · rw [if_pos c23] at H
                                      have c23b0 : decide (x11_4 < 32) = true := decide_eq_true c23
                                      clear c23
                                      by_cases c24 : 0 ≤ x11_4
                                      · rw [if_pos c24] at H
                                        have c24b0 : decide (0 ≤ x11_4) = true := decide_eq_true c24
                                        clear c24
                                        by_cases c25 : x11_4 < (t104.length : Int)
                                        · rw [if_pos c25] at H
                                          have c25b0 : decide (x11_4 < (t104.length : Int)) = true := decide_eq_true c25
                                          clear c25
                                          by_cases c26 : x11_4 < (x4_3.length : Int)
                                          · rw [if_pos c26] at H
                                            have c26b0 : decide (x11_4 < (x4_3.length : Int)) = true := decide_eq_true c26
                                            clear c26
                                            by_cases c27 : (rd x4_3 x11_4) = (wrap64 (rd t104 x11_4))
                                            · rw [if_pos c27] at H
                                              have c27b0 : ((rd x4_3 x11_4) == (wrap64 (rd t104 x11_4))) = true := beq_iff_eq.mpr c27
                                              have c27b1 : ((rd x4_3 x11_4) != (wrap64 (rd t104 x11_4))) = false := bne_eq_false_iff_eq.mpr c27
                                              clear c27
                                              have H' := Aside0.mk H
                                              clear H
                                              obtain ⟨Ao28, co28, eo28⟩ := Kd.R_slice HO_3.out
                                              subst eo28
                                              have p113 : 0 ≤ (x11_4 : Int) := of_decide_eq_true (by first | (with_reducible assumption) | assumption)
                                              have q113 : x11_4 < (t104.length : Int) := of_decide_eq_true (by first | (with_reducible assumption) | assumption)
                                              obtain ⟨ad113, e113, hx113_0⟩ := Kd.at_int (Kd.R_reads' HO_3.out).2.2 x11_4 p113 q113
                                              cases e113
                                              replace p113 := eq_true p113
                                              replace q113 := eq_true q113
                                              obtain ⟨Ao29, co29, eo29⟩ := Kd.R_slice HO_4.out
                                              subst eo29
                                              have p114 : 0 ≤ (x11_4 : Int) := of_decide_eq_true (by first | (with_reducible assumption) | assumption)
                                              have q114 : x11_4 < (x4_3.length : Int) := of_decide_eq_true (by first | (with_reducible assumption) | assumption)
                                              obtain ⟨ad114, e114, hx114_0⟩ := Kd.at_int (Kd.R_reads' HO_4.out).2.2 x11_4 p114 q114
                                              cases e114
                                              replace p114 := eq_true p114
                                              replace q114 := eq_true q114
                                              go_wp2
                                              repeat (go_quiet (fail); try go_wp2)
                                              go_roundg k4
                                              case measure => have := HK1.out; have := HK2.out; have := HK3.out; have := HK4.out; omega
                                              case rel => exact ⟨(x10_4), (wrap64 (x11_4 - 1)), (by first | rfl | (simp; done) | (simp [*]; done)), (by first | rfl | (simp; done) | (simp [*]; done)), H', ⟨by have := HK1.out; have := HK2.out; have := HK3.out; have := HK4.out; omega⟩, ⟨by (with_reducible repeat (first | apply Kd.R_alloc | apply Kd.R_drewN | apply Kd.R_drew)); exact HO_3.out⟩, ⟨by (with_reducible repeat (first | apply Kd.R_alloc | apply Kd.R_drewN | apply Kd.R_drew)); exact HO_4.out⟩, ⟨by repeat (first | (with_reducible first | exact HB.out | apply below_alloc | apply pw_below_drewN | apply below_drew1) | exact HB.out)⟩⟩
                                            · rw [if_neg c27] at H
                                              have c27b0 : ((rd x4_3 x11_4) == (wrap64 (rd t104 x11_4))) = false := beq_eq_false_iff_ne.mpr c27
                                              have c27b1 : ((rd x4_3 x11_4) != (wrap64 (rd t104 x11_4))) = true := bne_iff_ne.mpr c27
                                              have H' := Aside0.mk H
                                              clear H
                                              obtain ⟨Ao30, co30, eo30⟩ := Kd.R_slice HO_3.out
                                              subst eo30
                                              have p113 : 0 ≤ (x11_4 : Int) := of_decide_eq_true (by first | (with_reducible assumption) | assumption)
                                              have q113 : x11_4 < (t104.length : Int) := of_decide_eq_true (by first | (with_reducible assumption) | assumption)
                                              obtain ⟨ad113, e113, hx113_0⟩ := Kd.at_int (Kd.R_reads' HO_3.out).2.2 x11_4 p113 q113
                                              cases e113
                                              replace p113 := eq_true p113
                                              replace q113 := eq_true q113
                                              obtain ⟨Ao31, co31, eo31⟩ := Kd.R_slice HO_4.out
                                              subst eo31
                                              have p114 : 0 ≤ (x11_4 : Int) := of_decide_eq_true (by first | (with_reducible assumption) | assumption)
                                              have q114 : x11_4 < (x4_3.length : Int) := of_decide_eq_true (by first | (with_reducible assumption) | assumption)
                                              obtain ⟨ad114, e114, hx114_0⟩ := Kd.at_int (Kd.R_reads' HO_4.out).2.2 x11_4 p114 q114
                                              cases e114
                                              replace p114 := eq_true p114
                                              replace q114 := eq_true q114
                                              have p115 : 0 ≤ (x11_4 : Int) := of_decide_eq_true (by first | (with_reducible assumption) | assumption)
                                              have q115 : x11_4 < (x4_3.length : Int) := of_decide_eq_true (by first | (with_reducible assumption) | assumption)
                                              obtain ⟨ad115, e115, hx115_0⟩ := Kd.at_int (Kd.R_reads' HO_4.out).2.2 x11_4 p115 q115
                                              obtain rfl : ad114 = ad115 := (by injection e115)
                                              replace p115 := eq_true p115
                                              replace q115 := eq_true q115
                                              go_wp2
                                              repeat (go_quiet (fail); try go_wp2)
                                              go_meet
                                              case rel => exact ⟨_, (decide ((rd x4_3 x11_4) < (wrap64 (rd t104 x11_4)))), (by first | rfl | (simp; done) | (simp [*]; done)), H', ⟨by have := HK1.out; have := HK2.out; have := HK3.out; have := HK4.out; first | omega | exact Nat.le_refl _⟩, ⟨by (with_reducible repeat (first | apply Kd.R_alloc | apply Kd.R_drewN | apply Kd.R_drew)); exact HO_3.out⟩, ⟨by (with_reducible repeat (first | apply Kd.R_alloc | apply Kd.R_drewN | apply Kd.R_drew)); exact HO_4.out⟩, ⟨by repeat (first | (with_reducible first | exact HB.out | apply below_alloc | apply pw_below_drewN | apply below_drew1) | exact HB.out)⟩⟩
                                          · rw [if_neg c26] at H
                                            exact absurd H (by simp)
                                        · rw [if_neg c25] at H
                                          exact absurd H (by simp)
                                      · rw [if_neg c24] at H
                                        exact absurd H (by simp)
                                    · rw [if_neg c23] at H
                                      have c23b0 : decide (x11_4 < 32) = false := decide_eq_false c23
                                      clear c23
                                      by_cases c32 : 0 ≤ x11_4
                                      · rw [if_pos c32] at H
                                        have c32b0 : decide (0 ≤ x11_4) = true := decide_eq_true c32
                                        clear c32
                                        by_cases c33 : x11_4 < (x4_3.length : Int)
                                        · rw [if_pos c33] at H
                                          have c33b0 : decide (x11_4 < (x4_3.length : Int)) = true := decide_eq_true c33
                                          clear c33
                                          by_cases c34 : (rd x4_3 x11_4) = 0
                                          · rw [if_pos c34] at H
                                            have c34b0 : ((rd x4_3 x11_4) == 0) = true := beq_iff_eq.mpr c34
                                            have c34b1 : ((rd x4_3 x11_4) != 0) = false := bne_eq_false_iff_eq.mpr c34
                                            clear c34
                                            have H' := Aside0.mk H
                                            clear H
                                            obtain ⟨Ao35, co35, eo35⟩ := Kd.R_slice HO_4.out
                                            subst eo35
                                            have p116 : 0 ≤ (x11_4 : Int) := of_decide_eq_true (by first | (with_reducible assumption) | assumption)
                                            have q116 : x11_4 < (x4_3.length : Int) := of_decide_eq_true (by first | (with_reducible assumption) | assumption)
                                            obtain ⟨ad116, e116, hx116_0⟩ := Kd.at_int (Kd.R_reads' HO_4.out).2.2 x11_4 p116 q116
                                            cases e116
                                            replace p116 := eq_true p116
                                            replace q116 := eq_true q116
                                            go_wp2
                                            repeat (go_quiet (fail); try go_wp2)
                                            go_roundg k4
                                            case measure => have := HK1.out; have := HK2.out; have := HK3.out; have := HK4.out; omega
                                            case rel => exact ⟨(x10_4), (wrap64 (x11_4 - 1)), (by first | rfl | (simp; done) | (simp [*]; done)), (by first | rfl | (simp; done) | (simp [*]; done)), H', ⟨by have := HK1.out; have := HK2.out; have := HK3.out; have := HK4.out; omega⟩, ⟨by (with_reducible repeat (first | apply Kd.R_alloc | apply Kd.R_drewN | apply Kd.R_drew)); exact HO_3.out⟩, ⟨by (with_reducible repeat (first | apply Kd.R_alloc | apply Kd.R_drewN | apply Kd.R_drew)); exact HO_4.out⟩, ⟨by repeat (first | (with_reducible first | exact HB.out | apply below_alloc | apply pw_below_drewN | apply below_drew1) | exact HB.out)⟩⟩
                                          · rw [if_neg c34] at H
                                            have c34b0 : ((rd x4_3 x11_4) == 0) = false := beq_eq_false_iff_ne.mpr c34
                                            have c34b1 : ((rd x4_3 x11_4) != 0) = true := bne_iff_ne.mpr c34
                                            have H' := Aside0.mk H
                                            clear H
                                            obtain ⟨Ao36, co36, eo36⟩ := Kd.R_slice HO_4.out
                                            subst eo36
                                            have p116 : 0 ≤ (x11_4 : Int) := of_decide_eq_true (by first | (with_reducible assumption) | assumption)
                                            have q116 : x11_4 < (x4_3.length : Int) := of_decide_eq_true (by first | (with_reducible assumption) | assumption)
                                            obtain ⟨ad116, e116, hx116_0⟩ := Kd.at_int (Kd.R_reads' HO_4.out).2.2 x11_4 p116 q116
                                            cases e116
                                            replace p116 := eq_true p116
                                            replace q116 := eq_true q116
                                            have p117 : 0 ≤ (x11_4 : Int) := of_decide_eq_true (by first | (with_reducible assumption) | assumption)
                                            have q117 : x11_4 < (x4_3.length : Int) := of_decide_eq_true (by first | (with_reducible assumption) | assumption)
                                            obtain ⟨ad117, e117, hx117_0⟩ := Kd.at_int (Kd.R_reads' HO_4.out).2.2 x11_4 p117 q117
                                            obtain rfl : ad116 = ad117 := (by injection e117)
                                            replace p117 := eq_true p117
                                            replace q117 := eq_true q117
                                            go_wp2
                                            repeat (go_quiet (fail); try go_wp2)
                                            go_meet
                                            case rel => exact ⟨_, (decide ((rd x4_3 x11_4) < 0)), (by first | rfl | (simp; done) | (simp [*]; done)), H', ⟨by have := HK1.out; have := HK2.out; have := HK3.out; have := HK4.out; first | omega | exact Nat.le_refl _⟩, ⟨by (with_reducible repeat (first | apply Kd.R_alloc | apply Kd.R_drewN | apply Kd.R_drew)); exact HO_3.out⟩, ⟨by (with_reducible repeat (first | apply Kd.R_alloc | apply Kd.R_drewN | apply Kd.R_drew)); exact HO_4.out⟩, ⟨by repeat (first | (with_reducible first | exact HB.out | apply below_alloc | apply pw_below_drewN | apply below_drew1) | exact HB.out)⟩⟩
                                        · rw [if_neg c33] at H
                                          exact absurd H (by simp)
                                      · rw [if_neg c32] at H
                                        exact absurd H (by simp)
                                  · rw [if_neg c22] at H
                                    have c22b0 : decide (0 ≤ x11_4) = false := decide_eq_false c22
                                    clear c22
                                    (first | rw [c22b0] | (simp only [i64_w, i32_w]; rw [c22b0]) | skip)
                                    have H' := Aside0.mk H
                                    clear H
                                    go_wp2
                                    repeat (go_quiet (fail); try go_wp2)
                                    go_meet
                                    case rel => exact ⟨_, (x10_4), (by first | rfl | (simp; done) | (simp [*]; done)), H', ⟨by have := HK1.out; have := HK2.out; have := HK3.out; have := HK4.out; first | omega | exact Nat.le_refl _⟩, ⟨by (with_reducible repeat (first | apply Kd.R_alloc | apply Kd.R_drewN | apply Kd.R_drew)); exact HO_3.out⟩, ⟨by (with_reducible repeat (first | apply Kd.R_alloc | apply Kd.R_drewN | apply Kd.R_drew)); exact HO_4.out⟩, ⟨by repeat (first | (with_reducible first | exact HB.out | apply below_alloc | apply pw_below_drewN | apply below_drew1) | exact HB.out)⟩⟩
                            case rest =>
                              clear HC21
                              try clear c1
                              try clear p1
                              try clear q1
                              try clear hx1
                              try clear hf1
                              try clear c2
                              try clear p2
                              try clear c3
                              try clear c3b0
                              try clear c3b1
                              try clear c5
                              try clear p6
                              try clear c7
                              try clear c7b0
                              try clear c8
                              try clear c8b0
                              try clear c9
                              try clear c9b0
                              try clear c10
                              try clear c10b0
                              try clear p11
                              try clear q11
                              try clear hx11
                              try clear c12
                              try clear c12b0
                              try clear c12b1
                              try clear c14
                              try clear c14b0
                              try clear c15
                              try clear c15b0
                              try clear c16
                              try clear c16b0
                              try clear p17
                              try clear q17
                              try clear hx17
                              try clear hf17
                              try clear c22
                              try clear c22b0
                              try clear c23
                              try clear c23b0
                              try clear c24
                              try clear c24b0
                              try clear c25
                              try clear c25b0
                              try clear c26
                              try clear c26b0
                              try clear c27
                              try clear c27b0
                              try clear c27b1
                              try clear c32
                              try clear c32b0
                              try clear c33
                              try clear c33b0
                              try clear c34
                              try clear c34b0
                              try clear c34b1
                              try clear hx110_0
                              try clear hx111_0
                              try clear hx113_0
                              try clear hx114_0
                              try clear hx115_0
                              try clear hx116_0
                              try clear hx117_0
                              try clear hx17_0
                              try clear p1
                              try clear p11
                              try clear p110
                              try clear p111
                              try clear p113
                              try clear p114
                              try clear p115
                              try clear p116
                              try clear p117
                              try clear p17
                              try clear p2
                              try clear p6
                              try clear q1
                              try clear q11
                              try clear q110
                              try clear q111
                              try clear q113
                              try clear q114
                              try clear q115
                              try clear q116
                              try clear q117
                              try clear q17
                              obtain ⟨kq, x10_20, rfl, HA, HJ20, HO_3, HO_4, HB⟩ := hcut
                              cases kq with
                              | zero => exact absurd HA.out (by simp [spec_l05Mod.j4])
                              | succ kj20 =>
                                have H := HA.out
                                clear HA
                                simp only [spec_l05Mod.j4] at H
                                by_cases c37 : x10_20 = true
                                · subst c37
                                  have H1 : (spec_l05Mod.l1 kj20 l0 t104 x4_3 x5_1 (wrap64 (x6_2 - 1))) = some r := by rw [if_pos rfl] at H; exact H
                                  clear H
                                  have H := H1
                                  clear H1
                                  have H' := Aside0.mk H
                                  clear H
                                  go_wp2
                                  repeat (go_quiet (fail); try go_wp2)
                                  go_roundg kj20
                                  case measure => have := HK1.out; have := HK2.out; have := HK3.out; have := HJ20.out; omega
                                  case rel => exact ⟨(x4_3), (wrap64 (x6_2 - 1)), (by first | rfl | (simp; done) | (simp [*]; done)), H', ⟨by have := HK1.out; have := HK2.out; have := HK3.out; have := HJ20.out; omega⟩, ⟨by (with_reducible repeat (first | apply Kd.R_alloc | apply Kd.R_drewN | apply Kd.R_drew)); exact HO_3.out⟩, ⟨by (with_reducible repeat (first | apply Kd.R_alloc | apply Kd.R_drewN | apply Kd.R_drew)); exact HO_4.out⟩, ⟨by repeat (first | (with_reducible first | exact HB.out | apply below_alloc | apply pw_below_drewN | apply below_drew1) | exact HB.out)⟩⟩
                                · replace c37 := Bool.eq_false_iff.mpr c37
                                  subst c37
                                  have H1 : (spec_l05Mod.l4 kj20 l0 t104 x4_3 x5_1 x6_2 0 0) = some r := by rw [if_neg (show ¬ (false = true) by decide)] at H; exact H
                                  clear H
                                  have H := H1
                                  clear H1
                                  have H' := Aside0.mk H
                                  clear H
                                  go_wp2
                                  repeat (go_quiet (fail); try go_wp2)
                                  go_loopg [7, 13] kj20 (fun kq v7 v13 w' => ∃ (x4_5 : List Int) (x7_5 : Int) (x13_5 : Int), v7 = .int .i64 x7_5 ∧ v13 = .int .i64 x13_5 ∧ Aside0 (spec_l05Mod.l4 kq l0 t104 x4_5 x5_1 x6_2 x7_5 x13_5 = some r) ∧ Aside0 (kq ≤ kj20) ∧ Aside0 (Kd.R (Kd.int .u8) 5 w' w.heap.size (fun _ => True) v105 t104) ∧ Aside0 (Kd.R (Kd.int .i64) 3 w' w.heap.size (fun _ => True) v108 x4_5) ∧ Aside0 (Below w.heap.size w w'))
                                  case atStart => exact ⟨(x4_3), (0), (0), (by first | rfl | (simp; done) | (simp [*]; done)), (by first | rfl | (simp; done) | (simp [*]; done)), H', ⟨Nat.le_refl _⟩, ⟨by (with_reducible repeat (first | apply Kd.R_alloc | apply Kd.R_drewN | apply Kd.R_drew)); exact HO_3.out⟩, ⟨by (with_reducible repeat (first | apply Kd.R_alloc | apply Kd.R_drewN | apply Kd.R_drew)); exact HO_4.out⟩, ⟨by repeat (first | (with_reducible first | exact HB.out | apply below_alloc | apply pw_below_drewN | apply below_drew1) | exact HB.out)⟩⟩
                                  case round =>
                                    clear H'
                                    try clear c1
                                    try clear p1
                                    try clear q1
                                    try clear hx1
                                    try clear hf1
                                    try clear c2
                                    try clear p2
                                    try clear c3
                                    try clear c3b0
                                    try clear c3b1
                                    try clear c5
                                    try clear p6
                                    try clear c7
                                    try clear c7b0
                                    try clear c8
                                    try clear c8b0
                                    try clear c9
                                    try clear c9b0
                                    try clear c10
                                    try clear c10b0
                                    try clear p11
                                    try clear q11
                                    try clear hx11
                                    try clear c12
                                    try clear c12b0
                                    try clear c12b1
                                    try clear c14
                                    try clear c14b0
                                    try clear c15
                                    try clear c15b0
                                    try clear c16
                                    try clear c16b0
                                    try clear p17
                                    try clear q17
                                    try clear hx17
                                    try clear hf17
                                    try clear c22
                                    try clear c22b0
                                    try clear c23
                                    try clear c23b0
                                    try clear c24
                                    try clear c24b0
                                    try clear c25
                                    try clear c25b0
                                    try clear c26
                                    try clear c26b0
                                    try clear c27
                                    try clear c27b0
                                    try clear c27b1
                                    try clear c32
                                    try clear c32b0
                                    try clear c33
                                    try clear c33b0
                                    try clear c34
                                    try clear c34b0
                                    try clear c34b1
                                    try clear c37
                                    try clear hx110_0
                                    try clear hx111_0
                                    try clear hx113_0
                                    try clear hx114_0
                                    try clear hx115_0
                                    try clear hx116_0
                                    try clear hx117_0
                                    try clear hx17_0
                                    try clear p1
                                    try clear p11
                                    try clear p110
                                    try clear p111
                                    try clear p113
                                    try clear p114
                                    try clear p115
                                    try clear p116
                                    try clear p117
                                    try clear p17
                                    try clear p2
                                    try clear p6
                                    try clear q1
                                    try clear q11
                                    try clear q110
                                    try clear q111
                                    try clear q113
                                    try clear q114
                                    try clear q115
                                    try clear q116
                                    try clear q117
                                    try clear q17
                                    obtain ⟨x4_5, x7_5, x13_5, rfl, rfl, HA, HK5, HO_3, HO_4, HB⟩ := hrel
                                    cases gk with
                                    | zero => exact absurd HA.out (by simp [spec_l05Mod.l4])
                                    | succ k5 =>
                                      have H := HA.out
                                      clear HA
                                      simp only [spec_l05Mod.l4] at H
                                      by_cases c38 : x13_5 < 32
                                      · rw [if_pos c38] at H
                                        have c38b0 : decide (x13_5 < 32) = true := decide_eq_true c38
                                        clear c38
                                        by_cases c39 : 0 ≤ x13_5
                                        · rw [if_pos c39] at H
                                          have c39b0 : decide (0 ≤ x13_5) = true := decide_eq_true c39
                                          clear c39
                                          by_cases c40 : x13_5 < (x4_5.length : Int)
                                          · rw [if_pos c40] at H
                                            have c40b0 : decide (x13_5 < (x4_5.length : Int)) = true := decide_eq_true c40
                                            clear c40
                                            by_cases c41 : x13_5 < (t104.length : Int)
                                            · rw [if_pos c41] at H
                                              have c41b0 : decide (x13_5 < (t104.length : Int)) = true := decide_eq_true c41
                                              clear c41
                                              by_cases c42 : (wrap64 ((wrap64 ((rd x4_5 x13_5) - (wrap64 (rd t104 x13_5)))) - x7_5)) < 0
                                              · rw [if_pos c42] at H
                                                have c42b0 : decide ((wrap64 ((wrap64 ((rd x4_5 x13_5) - (wrap64 (rd t104 x13_5)))) - x7_5)) < 0) = true := decide_eq_true c42
                                                clear c42
                                                obtain ⟨y120, hy120⟩ : ∃ y_ : List Int, y_ = (x4_5.set (x13_5 : Int).toNat (wrap64 ((wrap64 ((wrap64 ((rd x4_5 x13_5) - (wrap64 (rd t104 x13_5)))) - x7_5)) + 256))) := ⟨_, rfl⟩
                                                replace H : (spec_l05Mod.l4 k5 l0 t104 y120 x5_1 x6_2 1 (wrap64 (x13_5 + 1))) = some r := by first | (rw [hy120]; with_reducible exact H) | (have H2_ := (Option.bind_some _ _).symm.trans H; rw [hy120]; with_reducible exact H2_) | (have H2_ := (Option.bind_some _ _).symm.trans H; with_reducible exact H2_) | with_reducible exact H | (rw [hy120]; exact H) | exact H
                                                have Ny120 := Aside0.mk hy120
                                                clear hy120
                                                have H' := Aside0.mk H
                                                clear H
                                                obtain ⟨Ao44, co44, eo44⟩ := Kd.R_slice HO_4.out
                                                subst eo44
                                                have p118 : 0 ≤ (x13_5 : Int) := of_decide_eq_true (by first | (with_reducible assumption) | assumption)
                                                have q118 : x13_5 < (x4_5.length : Int) := of_decide_eq_true (by first | (with_reducible assumption) | assumption)
                                                obtain ⟨ad118, e118, hx118_0⟩ := Kd.at_int (Kd.R_reads' HO_4.out).2.2 x13_5 p118 q118
                                                cases e118
                                                replace p118 := eq_true p118
                                                replace q118 := eq_true q118
                                                obtain ⟨Ao45, co45, eo45⟩ := Kd.R_slice HO_3.out
                                                subst eo45
                                                have p119 : 0 ≤ (x13_5 : Int) := of_decide_eq_true (by first | (with_reducible assumption) | assumption)
                                                have q119 : x13_5 < (t104.length : Int) := of_decide_eq_true (by first | (with_reducible assumption) | assumption)
                                                obtain ⟨ad119, e119, hx119_0⟩ := Kd.at_int (Kd.R_reads' HO_3.out).2.2 x13_5 p119 q119
                                                cases e119
                                                replace p119 := eq_true p119
                                                replace q119 := eq_true q119
                                                have p43 : 0 ≤ (x13_5 : Int) := of_decide_eq_true (by first | (with_reducible assumption) | assumption)
                                                have q43 : (x13_5 : Int) < ((x4_5.length : Int) : Int) := of_decide_eq_true (by first | (with_reducible assumption) | assumption)
                                                obtain ⟨go43, co43, eo43, gb43, gl43, cl43, HG43⟩ := Kd.R_form HO_4.out (by omega)
                                                (first | cases eo43 | (injection eo43 with ea_ en_ ec_; (first | subst ea_ | (injection ea_ with ea_; subst ea_)); subst ec_; clear en_))
                                                have GB43 := Aside0.mk gb43
                                                have GG43 := Aside0.mk HG43
                                                clear gb43 gl43 HG43
                                                (first | simp only [add_plain] at hx118_0 | skip)
                                                obtain ⟨hx43_0, hf43_0⟩ := Kd.R_celln 0 HO_4.out (x13_5 : Int) p43 q43
                                                replace p43 := eq_true p43
                                                replace q43 := eq_true q43
                                                have HP46 := Kd.R_putg HO_4.out (x13_5 : Int) (wrap64 ((wrap64 ((wrap64 ((rd x4_5 x13_5) - (wrap64 (rd t104 x13_5)))) - x7_5)) + 256))
                                                go_wp2_with (first | ((with_reducible refine gate_store (t := 3) (p := 104) rfl ?_); (try (rw [drewN_self wr]; generalize hq_ : World.drewN wr _ = wr; have n0_ := Aside0.mk (Kd.R_at hq_ HO_3.out); have n1_ := Aside0.mk (Kd.R_at hq_ HO_4.out); have n2_ := Aside0.mk (below_at hq_ HB.out); clear hq_ HO_3 HO_4 HB; have HO_3 := n0_; have HO_4 := n1_; have HB := n2_; clear n0_ n1_ n2_; (try (have HP46 := Kd.R_putg HO_4.out (x13_5 : Int) (wrap64 ((wrap64 ((wrap64 ((rd x4_5 x13_5) - (wrap64 (rd t104 x13_5)))) - x7_5)) + 256)))); (try (have hcf_ := Kd.R_celln 0 HO_4.out (x13_5 : Int) (of_eq_true p43) (of_eq_true q43); obtain ⟨_, hcg_⟩ := hcf_)))); refine store_event (t := 3) (p := 104) (v := ?vo_w47) (w1 := (wr.setCell ⟨go43, (x13_5 : Int).toNat, none⟩ (.int .i64 (wrap64 ((wrap64 ((wrap64 ((rd x4_5 x13_5) - (wrap64 (rd t104 x13_5)))) - x7_5)) + 256))))) ?hg ?ho ?hn ?hr ?_; (case ho => rfl); (case hg => rfl); (case hn => rfl); (case hr => first | (go_simp; done) | (go_simp; rfl)); intro w47 hw; have hg : wr.grownBy w47 (some go43) := (by rw [hw]; exact HP46.2); have hp_ : Kd.R (Kd.int .i64) 3 w47 w.heap.size (fun _ => True) (.slice (some ⟨go43, 0, none⟩) x4_5.length co44) y120 := (by rw [hw, Ny120.out]; exact HP46.1); clear HP46; have n0_ := Aside0.mk (Kd.R_over' (v := (.slice (some ⟨go43, 0, none⟩) x4_5.length co44)) (by (with_reducible repeat (first | apply Kd.R_alloc | apply Kd.R_drewN | apply Kd.R_drew)); exact HO_3.out) (Kd.R_typed HO_4.out) (by decide) hg); have n1_ := Aside0.mk (hp_); have n2_ := Aside0.mk ((by rw [hw]; exact below_set (HB.out) GB43.out : Below w.heap.size w w47)); clear HO_3; clear HO_4; clear HB; have HO_3 := n0_; have HO_4 := n1_; have HB := n2_; clear n0_ n1_ n2_; clear hg hw hp_))
                                                repeat (go_quiet (first | ((with_reducible refine gate_store (t := 3) (p := 104) rfl ?_); (try (rw [drewN_self wr]; generalize hq_ : World.drewN wr _ = wr; have n0_ := Aside0.mk (Kd.R_at hq_ HO_3.out); have n1_ := Aside0.mk (Kd.R_at hq_ HO_4.out); have n2_ := Aside0.mk (below_at hq_ HB.out); clear hq_ HO_3 HO_4 HB; have HO_3 := n0_; have HO_4 := n1_; have HB := n2_; clear n0_ n1_ n2_; (try (have HP46 := Kd.R_putg HO_4.out (x13_5 : Int) (wrap64 ((wrap64 ((wrap64 ((rd x4_5 x13_5) - (wrap64 (rd t104 x13_5)))) - x7_5)) + 256)))); (try (have hcf_ := Kd.R_celln 0 HO_4.out (x13_5 : Int) (of_eq_true p43) (of_eq_true q43); obtain ⟨_, hcg_⟩ := hcf_)))); refine store_event (t := 3) (p := 104) (v := ?vo_w47) (w1 := (wr.setCell ⟨go43, (x13_5 : Int).toNat, none⟩ (.int .i64 (wrap64 ((wrap64 ((wrap64 ((rd x4_5 x13_5) - (wrap64 (rd t104 x13_5)))) - x7_5)) + 256))))) ?hg ?ho ?hn ?hr ?_; (case ho => rfl); (case hg => rfl); (case hn => rfl); (case hr => first | (go_simp; done) | (go_simp; rfl)); intro w47 hw; have hg : wr.grownBy w47 (some go43) := (by rw [hw]; exact HP46.2); have hp_ : Kd.R (Kd.int .i64) 3 w47 w.heap.size (fun _ => True) (.slice (some ⟨go43, 0, none⟩) x4_5.length co44) y120 := (by rw [hw, Ny120.out]; exact HP46.1); clear HP46; have n0_ := Aside0.mk (Kd.R_over' (v := (.slice (some ⟨go43, 0, none⟩) x4_5.length co44)) (by (with_reducible repeat (first | apply Kd.R_alloc | apply Kd.R_drewN | apply Kd.R_drew)); exact HO_3.out) (Kd.R_typed HO_4.out) (by decide) hg); have n1_ := Aside0.mk (hp_); have n2_ := Aside0.mk ((by rw [hw]; exact below_set (HB.out) GB43.out : Below w.heap.size w w47)); clear HO_3; clear HO_4; clear HB; have HO_3 := n0_; have HO_4 := n1_; have HB := n2_; clear n0_ n1_ n2_; clear hg hw hp_)); try go_wp2_with (first | ((with_reducible refine gate_store (t := 3) (p := 104) rfl ?_); (try (rw [drewN_self wr]; generalize hq_ : World.drewN wr _ = wr; have n0_ := Aside0.mk (Kd.R_at hq_ HO_3.out); have n1_ := Aside0.mk (Kd.R_at hq_ HO_4.out); have n2_ := Aside0.mk (below_at hq_ HB.out); clear hq_ HO_3 HO_4 HB; have HO_3 := n0_; have HO_4 := n1_; have HB := n2_; clear n0_ n1_ n2_; (try (have HP46 := Kd.R_putg HO_4.out (x13_5 : Int) (wrap64 ((wrap64 ((wrap64 ((rd x4_5 x13_5) - (wrap64 (rd t104 x13_5)))) - x7_5)) + 256)))); (try (have hcf_ := Kd.R_celln 0 HO_4.out (x13_5 : Int) (of_eq_true p43) (of_eq_true q43); obtain ⟨_, hcg_⟩ := hcf_)))); refine store_event (t := 3) (p := 104) (v := ?vo_w47) (w1 := (wr.setCell ⟨go43, (x13_5 : Int).toNat, none⟩ (.int .i64 (wrap64 ((wrap64 ((wrap64 ((rd x4_5 x13_5) - (wrap64 (rd t104 x13_5)))) - x7_5)) + 256))))) ?hg ?ho ?hn ?hr ?_; (case ho => rfl); (case hg => rfl); (case hn => rfl); (case hr => first | (go_simp; done) | (go_simp; rfl)); intro w47 hw; have hg : wr.grownBy w47 (some go43) := (by rw [hw]; exact HP46.2); have hp_ : Kd.R (Kd.int .i64) 3 w47 w.heap.size (fun _ => True) (.slice (some ⟨go43, 0, none⟩) x4_5.length co44) y120 := (by rw [hw, Ny120.out]; exact HP46.1); clear HP46; have n0_ := Aside0.mk (Kd.R_over' (v := (.slice (some ⟨go43, 0, none⟩) x4_5.length co44)) (by (with_reducible repeat (first | apply Kd.R_alloc | apply Kd.R_drewN | apply Kd.R_drew)); exact HO_3.out) (Kd.R_typed HO_4.out) (by decide) hg); have n1_ := Aside0.mk (hp_); have n2_ := Aside0.mk ((by rw [hw]; exact below_set (HB.out) GB43.out : Below w.heap.size w w47)); clear HO_3; clear HO_4; clear HB; have HO_3 := n0_; have HO_4 := n1_; have HB := n2_; clear n0_ n1_ n2_; clear hg hw hp_)))
                                                go_roundg k5
                                                case measure => have := HK1.out; have := HK2.out; have := HK3.out; have := HJ20.out; have := HK5.out; omega
                                                case rel => exact ⟨(y120), (1), (wrap64 (x13_5 + 1)), (by first | rfl | (simp; done) | (simp [*]; done)), (by first | rfl | (simp; done) | (simp [*]; done)), H', ⟨by have := HK1.out; have := HK2.out; have := HK3.out; have := HJ20.out; have := HK5.out; omega⟩, ⟨by (with_reducible repeat (first | apply Kd.R_alloc | apply Kd.R_drewN | apply Kd.R_drew)); exact HO_3.out⟩, ⟨by (with_reducible repeat (first | apply Kd.R_alloc | apply Kd.R_drewN | apply Kd.R_drew)); exact HO_4.out⟩, ⟨by repeat (first | (with_reducible first | exact HB.out | apply below_alloc | apply pw_below_drewN | apply below_drew1) | exact HB.out)⟩⟩
                                              · rw [if_neg c42] at H
                                                have c42b0 : decide ((wrap64 ((wrap64 ((rd x4_5 x13_5) - (wrap64 (rd t104 x13_5)))) - x7_5)) < 0) = false := decide_eq_false c42
                                                clear c42
                                                obtain ⟨y121, hy121⟩ : ∃ y_ : List Int, y_ = (x4_5.set (x13_5 : Int).toNat (wrap64 ((wrap64 ((rd x4_5 x13_5) - (wrap64 (rd t104 x13_5)))) - x7_5))) := ⟨_, rfl⟩
                                                replace H : (spec_l05Mod.l4 k5 l0 t104 y121 x5_1 x6_2 0 (wrap64 (x13_5 + 1))) = some r := by first | (rw [hy121]; with_reducible exact H) | (have H2_ := (Option.bind_some _ _).symm.trans H; rw [hy121]; with_reducible exact H2_) | (have H2_ := (Option.bind_some _ _).symm.trans H; with_reducible exact H2_) | with_reducible exact H | (rw [hy121]; exact H) | exact H
                                                have Ny121 := Aside0.mk hy121
                                                clear hy121
                                                have H' := Aside0.mk H
                                                clear H
                                                obtain ⟨Ao49, co49, eo49⟩ := Kd.R_slice HO_4.out
                                                subst eo49
                                                have p118 : 0 ≤ (x13_5 : Int) := of_decide_eq_true (by first | (with_reducible assumption) | assumption)
                                                have q118 : x13_5 < (x4_5.length : Int) := of_decide_eq_true (by first | (with_reducible assumption) | assumption)
                                                obtain ⟨ad118, e118, hx118_0⟩ := Kd.at_int (Kd.R_reads' HO_4.out).2.2 x13_5 p118 q118
                                                cases e118
                                                replace p118 := eq_true p118
                                                replace q118 := eq_true q118
                                                obtain ⟨Ao50, co50, eo50⟩ := Kd.R_slice HO_3.out
                                                subst eo50
                                                have p119 : 0 ≤ (x13_5 : Int) := of_decide_eq_true (by first | (with_reducible assumption) | assumption)
                                                have q119 : x13_5 < (t104.length : Int) := of_decide_eq_true (by first | (with_reducible assumption) | assumption)
                                                obtain ⟨ad119, e119, hx119_0⟩ := Kd.at_int (Kd.R_reads' HO_3.out).2.2 x13_5 p119 q119
                                                cases e119
                                                replace p119 := eq_true p119
                                                replace q119 := eq_true q119
                                                have p48 : 0 ≤ (x13_5 : Int) := of_decide_eq_true (by first | (with_reducible assumption) | assumption)
                                                have q48 : (x13_5 : Int) < ((x4_5.length : Int) : Int) := of_decide_eq_true (by first | (with_reducible assumption) | assumption)
                                                obtain ⟨go48, co48, eo48, gb48, gl48, cl48, HG48⟩ := Kd.R_form HO_4.out (by omega)
                                                (first | cases eo48 | (injection eo48 with ea_ en_ ec_; (first | subst ea_ | (injection ea_ with ea_; subst ea_)); subst ec_; clear en_))
                                                have GB48 := Aside0.mk gb48
                                                have GG48 := Aside0.mk HG48
                                                clear gb48 gl48 HG48
                                                (first | simp only [add_plain] at hx118_0 | skip)
                                                obtain ⟨hx48_0, hf48_0⟩ := Kd.R_celln 0 HO_4.out (x13_5 : Int) p48 q48
                                                replace p48 := eq_true p48
                                                replace q48 := eq_true q48
                                                have HP51 := Kd.R_putg HO_4.out (x13_5 : Int) (wrap64 ((wrap64 ((rd x4_5 x13_5) - (wrap64 (rd t104 x13_5)))) - x7_5))
                                                go_wp2_with (first | ((with_reducible refine gate_store (t := 3) (p := 104) rfl ?_); (try (rw [drewN_self wr]; generalize hq_ : World.drewN wr _ = wr; have n0_ := Aside0.mk (Kd.R_at hq_ HO_3.out); have n1_ := Aside0.mk (Kd.R_at hq_ HO_4.out); have n2_ := Aside0.mk (below_at hq_ HB.out); clear hq_ HO_3 HO_4 HB; have HO_3 := n0_; have HO_4 := n1_; have HB := n2_; clear n0_ n1_ n2_; (try (have HP51 := Kd.R_putg HO_4.out (x13_5 : Int) (wrap64 ((wrap64 ((rd x4_5 x13_5) - (wrap64 (rd t104 x13_5)))) - x7_5)))); (try (have hcf_ := Kd.R_celln 0 HO_4.out (x13_5 : Int) (of_eq_true p48) (of_eq_true q48); obtain ⟨_, hcg_⟩ := hcf_)))); refine store_event (t := 3) (p := 104) (v := ?vo_w52) (w1 := (wr.setCell ⟨go48, (x13_5 : Int).toNat, none⟩ (.int .i64 (wrap64 ((wrap64 ((rd x4_5 x13_5) - (wrap64 (rd t104 x13_5)))) - x7_5))))) ?hg ?ho ?hn ?hr ?_; (case ho => rfl); (case hg => rfl); (case hn => rfl); (case hr => first | (go_simp; done) | (go_simp; rfl)); intro w52 hw; have hg : wr.grownBy w52 (some go48) := (by rw [hw]; exact HP51.2); have hp_ : Kd.R (Kd.int .i64) 3 w52 w.heap.size (fun _ => True) (.slice (some ⟨go48, 0, none⟩) x4_5.length co49) y121 := (by rw [hw, Ny121.out]; exact HP51.1); clear HP51; have n0_ := Aside0.mk (Kd.R_over' (v := (.slice (some ⟨go48, 0, none⟩) x4_5.length co49)) (by (with_reducible repeat (first | apply Kd.R_alloc | apply Kd.R_drewN | apply Kd.R_drew)); exact HO_3.out) (Kd.R_typed HO_4.out) (by decide) hg); have n1_ := Aside0.mk (hp_); have n2_ := Aside0.mk ((by rw [hw]; exact below_set (HB.out) GB48.out : Below w.heap.size w w52)); clear HO_3; clear HO_4; clear HB; have HO_3 := n0_; have HO_4 := n1_; have HB := n2_; clear n0_ n1_ n2_; clear hg hw hp_))
                                                repeat (go_quiet (first | ((with_reducible refine gate_store (t := 3) (p := 104) rfl ?_); (try (rw [drewN_self wr]; generalize hq_ : World.drewN wr _ = wr; have n0_ := Aside0.mk (Kd.R_at hq_ HO_3.out); have n1_ := Aside0.mk (Kd.R_at hq_ HO_4.out); have n2_ := Aside0.mk (below_at hq_ HB.out); clear hq_ HO_3 HO_4 HB; have HO_3 := n0_; have HO_4 := n1_; have HB := n2_; clear n0_ n1_ n2_; (try (have HP51 := Kd.R_putg HO_4.out (x13_5 : Int) (wrap64 ((wrap64 ((rd x4_5 x13_5) - (wrap64 (rd t104 x13_5)))) - x7_5)))); (try (have hcf_ := Kd.R_celln 0 HO_4.out (x13_5 : Int) (of_eq_true p48) (of_eq_true q48); obtain ⟨_, hcg_⟩ := hcf_)))); refine store_event (t := 3) (p := 104) (v := ?vo_w52) (w1 := (wr.setCell ⟨go48, (x13_5 : Int).toNat, none⟩ (.int .i64 (wrap64 ((wrap64 ((rd x4_5 x13_5) - (wrap64 (rd t104 x13_5)))) - x7_5))))) ?hg ?ho ?hn ?hr ?_; (case ho => rfl); (case hg => rfl); (case hn => rfl); (case hr => first | (go_simp; done) | (go_simp; rfl)); intro w52 hw; have hg : wr.grownBy w52 (some go48) := (by rw [hw]; exact HP51.2); have hp_ : Kd.R (Kd.int .i64) 3 w52 w.heap.size (fun _ => True) (.slice (some ⟨go48, 0, none⟩) x4_5.length co49) y121 := (by rw [hw, Ny121.out]; exact HP51.1); clear HP51; have n0_ := Aside0.mk (Kd.R_over' (v := (.slice (some ⟨go48, 0, none⟩) x4_5.length co49)) (by (with_reducible repeat (first | apply Kd.R_alloc | apply Kd.R_drewN | apply Kd.R_drew)); exact HO_3.out) (Kd.R_typed HO_4.out) (by decide) hg); have n1_ := Aside0.mk (hp_); have n2_ := Aside0.mk ((by rw [hw]; exact below_set (HB.out) GB48.out : Below w.heap.size w w52)); clear HO_3; clear HO_4; clear HB; have HO_3 := n0_; have HO_4 := n1_; have HB := n2_; clear n0_ n1_ n2_; clear hg hw hp_)); try go_wp2_with (first | ((with_reducible refine gate_store (t := 3) (p := 104) rfl ?_); (try (rw [drewN_self wr]; generalize hq_ : World.drewN wr _ = wr; have n0_ := Aside0.mk (Kd.R_at hq_ HO_3.out); have n1_ := Aside0.mk (Kd.R_at hq_ HO_4.out); have n2_ := Aside0.mk (below_at hq_ HB.out); clear hq_ HO_3 HO_4 HB; have HO_3 := n0_; have HO_4 := n1_; have HB := n2_; clear n0_ n1_ n2_; (try (have HP51 := Kd.R_putg HO_4.out (x13_5 : Int) (wrap64 ((wrap64 ((rd x4_5 x13_5) - (wrap64 (rd t104 x13_5)))) - x7_5)))); (try (have hcf_ := Kd.R_celln 0 HO_4.out (x13_5 : Int) (of_eq_true p48) (of_eq_true q48); obtain ⟨_, hcg_⟩ := hcf_)))); refine store_event (t := 3) (p := 104) (v := ?vo_w52) (w1 := (wr.setCell ⟨go48, (x13_5 : Int).toNat, none⟩ (.int .i64 (wrap64 ((wrap64 ((rd x4_5 x13_5) - (wrap64 (rd t104 x13_5)))) - x7_5))))) ?hg ?ho ?hn ?hr ?_; (case ho => rfl); (case hg => rfl); (case hn => rfl); (case hr => first | (go_simp; done) | (go_simp; rfl)); intro w52 hw; have hg : wr.grownBy w52 (some go48) := (by rw [hw]; exact HP51.2); have hp_ : Kd.R (Kd.int .i64) 3 w52 w.heap.size (fun _ => True) (.slice (some ⟨go48, 0, none⟩) x4_5.length co49) y121 := (by rw [hw, Ny121.out]; exact HP51.1); clear HP51; have n0_ := Aside0.mk (Kd.R_over' (v := (.slice (some ⟨go48, 0, none⟩) x4_5.length co49)) (by (with_reducible repeat (first | apply Kd.R_alloc | apply Kd.R_drewN | apply Kd.R_drew)); exact HO_3.out) (Kd.R_typed HO_4.out) (by decide) hg); have n1_ := Aside0.mk (hp_); have n2_ := Aside0.mk ((by rw [hw]; exact below_set (HB.out) GB48.out : Below w.heap.size w w52)); clear HO_3; clear HO_4; clear HB; have HO_3 := n0_; have HO_4 := n1_; have HB := n2_; clear n0_ n1_ n2_; clear hg hw hp_)))
                                                go_roundg k5
                                                case measure => have := HK1.out; have := HK2.out; have := HK3.out; have := HJ20.out; have := HK5.out; omega
                                                case rel => exact ⟨(y121), (0), (wrap64 (x13_5 + 1)), (by first | rfl | (simp; done) | (simp [*]; done)), (by first | rfl | (simp; done) | (simp [*]; done)), H', ⟨by have := HK1.out; have := HK2.out; have := HK3.out; have := HJ20.out; have := HK5.out; omega⟩, ⟨by (with_reducible repeat (first | apply Kd.R_alloc | apply Kd.R_drewN | apply Kd.R_drew)); exact HO_3.out⟩, ⟨by (with_reducible repeat (first | apply Kd.R_alloc | apply Kd.R_drewN | apply Kd.R_drew)); exact HO_4.out⟩, ⟨by repeat (first | (with_reducible first | exact HB.out | apply below_alloc | apply pw_below_drewN | apply below_drew1) | exact HB.out)⟩⟩
                                            · rw [if_neg c41] at H
                                              exact absurd H (by simp)
                                          · rw [if_neg c40] at H
                                            exact absurd H (by simp)
                                        · rw [if_neg c39] at H
                                          exact absurd H (by simp)
                                      · rw [if_neg c38] at H
                                        have c38b0 : decide (x13_5 < 32) = false := decide_eq_false c38
                                        clear c38
                                        by_cases c53 : 32 < (x4_5.length : Int)
                                        · rw [if_pos c53] at H
                                          have c53b0 : decide (32 < (x4_5.length : Int)) = true := decide_eq_true c53
                                          have c53b1 : decide (32 < x4_5.length) = true := decide_eq_true (by omega)
                                          clear c53
                                          obtain ⟨y123, hy123⟩ : ∃ y_ : List Int, y_ = (x4_5.set (32 : Int).toNat (wrap64 ((rd x4_5 32) - x7_5))) := ⟨_, rfl⟩
                                          replace H : (spec_l05Mod.l1 k5 l0 t104 y123 x5_1 (wrap64 (x6_2 - 1))) = some r := by first | (rw [hy123]; with_reducible exact H) | (have H2_ := (Option.bind_some _ _).symm.trans H; rw [hy123]; with_reducible exact H2_) | (have H2_ := (Option.bind_some _ _).symm.trans H; with_reducible exact H2_) | with_reducible exact H | (rw [hy123]; exact H) | exact H
                                          have Ny123 := Aside0.mk hy123
                                          clear hy123
                                          have H' := Aside0.mk H
                                          clear H
                                          obtain ⟨Ao55, co55, eo55⟩ := Kd.R_slice HO_4.out
                                          subst eo55
                                          have p122 : 0 ≤ (32 : Int) := (by omega)
                                          have q122 : 32 < (x4_5.length : Int) := of_decide_eq_true (by first | (with_reducible assumption) | assumption)
                                          obtain ⟨ad122, e122, hx122_0⟩ := Kd.at_int (Kd.R_reads' HO_4.out).2.2 32 p122 q122
                                          cases e122
                                          (try simp only [show (32 : Int).toNat = 32 from rfl, Nat.reduceMul, Nat.reduceEqDiff, Go.Addr.add, ↓reduceIte] at hx122_0)
                                          have qi122 : (32 < x4_5.length) = True := eq_true (by omega)
                                          (try rw [show ((32 : Int)).toNat = 32 from rfl] at hx122_0)
                                          replace p122 := eq_true p122
                                          replace q122 := eq_true q122
                                          have p54 : 0 ≤ (32 : Int) := (by omega)
                                          have q54 : (32 : Int) < ((x4_5.length : Int) : Int) := of_decide_eq_true (by first | (with_reducible assumption) | assumption)
                                          have qi54 : (32 < x4_5.length) = True := eq_true (by omega)
                                          obtain ⟨go54, co54, eo54, gb54, gl54, cl54, HG54⟩ := Kd.R_form HO_4.out (by omega)
                                          (first | cases eo54 | (injection eo54 with ea_ en_ ec_; (first | subst ea_ | (injection ea_ with ea_; subst ea_)); subst ec_; clear en_))
                                          have GB54 := Aside0.mk gb54
                                          have GG54 := Aside0.mk HG54
                                          clear gb54 gl54 HG54
                                          (first | simp only [add_plain] at hx122_0 | skip)
                                          obtain ⟨hx54_0, hf54_0⟩ := Kd.R_celln 0 HO_4.out (32 : Int) p54 q54
                                          (try rw [show ((32 : Int)).toNat = 32 from rfl] at hx54_0)
                                          (try simp only [Nat.reduceMul, Nat.zero_mul, Nat.zero_add, Nat.reduceAdd] at hx54_0)
                                          (try rw [show ((32 : Int)).toNat = 32 from rfl] at hf54_0)
                                          (try simp only [Nat.reduceMul, Nat.zero_mul, Nat.zero_add, Nat.reduceAdd] at hf54_0)
                                          replace p54 := eq_true p54
                                          replace q54 := eq_true q54
                                          have HP56 := Kd.R_putg HO_4.out (32 : Int) (wrap64 ((rd x4_5 32) - x7_5))
                                          go_wp2_with (first | ((with_reducible refine gate_store (t := 3) (p := 110) rfl ?_); (try (rw [drewN_self wr]; generalize hq_ : World.drewN wr _ = wr; have n0_ := Aside0.mk (Kd.R_at hq_ HO_3.out); have n1_ := Aside0.mk (Kd.R_at hq_ HO_4.out); have n2_ := Aside0.mk (below_at hq_ HB.out); clear hq_ HO_3 HO_4 HB; have HO_3 := n0_; have HO_4 := n1_; have HB := n2_; clear n0_ n1_ n2_; (try (have HP56 := Kd.R_putg HO_4.out (32 : Int) (wrap64 ((rd x4_5 32) - x7_5)))); (try (have hcf_ := Kd.R_celln 0 HO_4.out (32 : Int) (of_eq_true p54) (of_eq_true q54); obtain ⟨_, hcg_⟩ := hcf_)))); refine store_event (t := 3) (p := 110) (v := ?vo_w57) (w1 := (wr.setCell ⟨go54, (32 : Int).toNat, none⟩ (.int .i64 (wrap64 ((rd x4_5 32) - x7_5))))) ?hg ?ho ?hn ?hr ?_; (case ho => rfl); (case hg => rfl); (case hn => rfl); (case hr => first | (go_simp; done) | (go_simp; rfl)); intro w57 hw; have hg : wr.grownBy w57 (some go54) := (by rw [hw]; exact HP56.2); have hp_ : Kd.R (Kd.int .i64) 3 w57 w.heap.size (fun _ => True) (.slice (some ⟨go54, 0, none⟩) x4_5.length co55) y123 := (by rw [hw, Ny123.out]; exact HP56.1); clear HP56; have n0_ := Aside0.mk (Kd.R_over' (v := (.slice (some ⟨go54, 0, none⟩) x4_5.length co55)) (by (with_reducible repeat (first | apply Kd.R_alloc | apply Kd.R_drewN | apply Kd.R_drew)); exact HO_3.out) (Kd.R_typed HO_4.out) (by decide) hg); have n1_ := Aside0.mk (hp_); have n2_ := Aside0.mk ((by rw [hw]; exact below_set (HB.out) GB54.out : Below w.heap.size w w57)); clear HO_3; clear HO_4; clear HB; have HO_3 := n0_; have HO_4 := n1_; have HB := n2_; clear n0_ n1_ n2_; clear hg hw hp_))
                                          repeat (go_quiet (first | ((with_reducible refine gate_store (t := 3) (p := 110) rfl ?_); (try (rw [drewN_self wr]; generalize hq_ : World.drewN wr _ = wr; have n0_ := Aside0.mk (Kd.R_at hq_ HO_3.out); have n1_ := Aside0.mk (Kd.R_at hq_ HO_4.out); have n2_ := Aside0.mk (below_at hq_ HB.out); clear hq_ HO_3 HO_4 HB; have HO_3 := n0_; have HO_4 := n1_; have HB := n2_; clear n0_ n1_ n2_; (try (have HP56 := Kd.R_putg HO_4.out (32 : Int) (wrap64 ((rd x4_5 32) - x7_5)))); (try (have hcf_ := Kd.R_celln 0 HO_4.out (32 : Int) (of_eq_true p54) (of_eq_true q54); obtain ⟨_, hcg_⟩ := hcf_)))); refine store_event (t := 3) (p := 110) (v := ?vo_w57) (w1 := (wr.setCell ⟨go54, (32 : Int).toNat, none⟩ (.int .i64 (wrap64 ((rd x4_5 32) - x7_5))))) ?hg ?ho ?hn ?hr ?_; (case ho => rfl); (case hg => rfl); (case hn => rfl); (case hr => first | (go_simp; done) | (go_simp; rfl)); intro w57 hw; have hg : wr.grownBy w57 (some go54) := (by rw [hw]; exact HP56.2); have hp_ : Kd.R (Kd.int .i64) 3 w57 w.heap.size (fun _ => True) (.slice (some ⟨go54, 0, none⟩) x4_5.length co55) y123 := (by rw [hw, Ny123.out]; exact HP56.1); clear HP56; have n0_ := Aside0.mk (Kd.R_over' (v := (.slice (some ⟨go54, 0, none⟩) x4_5.length co55)) (by (with_reducible repeat (first | apply Kd.R_alloc | apply Kd.R_drewN | apply Kd.R_drew)); exact HO_3.out) (Kd.R_typed HO_4.out) (by decide) hg); have n1_ := Aside0.mk (hp_); have n2_ := Aside0.mk ((by rw [hw]; exact below_set (HB.out) GB54.out : Below w.heap.size w w57)); clear HO_3; clear HO_4; clear HB; have HO_3 := n0_; have HO_4 := n1_; have HB := n2_; clear n0_ n1_ n2_; clear hg hw hp_)); try go_wp2_with (first | ((with_reducible refine gate_store (t := 3) (p := 110) rfl ?_); (try (rw [drewN_self wr]; generalize hq_ : World.drewN wr _ = wr; have n0_ := Aside0.mk (Kd.R_at hq_ HO_3.out); have n1_ := Aside0.mk (Kd.R_at hq_ HO_4.out); have n2_ := Aside0.mk (below_at hq_ HB.out); clear hq_ HO_3 HO_4 HB; have HO_3 := n0_; have HO_4 := n1_; have HB := n2_; clear n0_ n1_ n2_; (try (have HP56 := Kd.R_putg HO_4.out (32 : Int) (wrap64 ((rd x4_5 32) - x7_5)))); (try (have hcf_ := Kd.R_celln 0 HO_4.out (32 : Int) (of_eq_true p54) (of_eq_true q54); obtain ⟨_, hcg_⟩ := hcf_)))); refine store_event (t := 3) (p := 110) (v := ?vo_w57) (w1 := (wr.setCell ⟨go54, (32 : Int).toNat, none⟩ (.int .i64 (wrap64 ((rd x4_5 32) - x7_5))))) ?hg ?ho ?hn ?hr ?_; (case ho => rfl); (case hg => rfl); (case hn => rfl); (case hr => first | (go_simp; done) | (go_simp; rfl)); intro w57 hw; have hg : wr.grownBy w57 (some go54) := (by rw [hw]; exact HP56.2); have hp_ : Kd.R (Kd.int .i64) 3 w57 w.heap.size (fun _ => True) (.slice (some ⟨go54, 0, none⟩) x4_5.length co55) y123 := (by rw [hw, Ny123.out]; exact HP56.1); clear HP56; have n0_ := Aside0.mk (Kd.R_over' (v := (.slice (some ⟨go54, 0, none⟩) x4_5.length co55)) (by (with_reducible repeat (first | apply Kd.R_alloc | apply Kd.R_drewN | apply Kd.R_drew)); exact HO_3.out) (Kd.R_typed HO_4.out) (by decide) hg); have n1_ := Aside0.mk (hp_); have n2_ := Aside0.mk ((by rw [hw]; exact below_set (HB.out) GB54.out : Below w.heap.size w w57)); clear HO_3; clear HO_4; clear HB; have HO_3 := n0_; have HO_4 := n1_; have HB := n2_; clear n0_ n1_ n2_; clear hg hw hp_)))
                                          go_roundg k5
                                          case measure => have := HK1.out; have := HK2.out; have := HK3.out; have := HJ20.out; have := HK5.out; omega
                                          case rel => exact ⟨(y123), (wrap64 (x6_2 - 1)), (by first | rfl | (simp; done) | (simp [*]; done)), H', ⟨by have := HK1.out; have := HK2.out; have := HK3.out; have := HJ20.out; have := HK5.out; omega⟩, ⟨by (with_reducible repeat (first | apply Kd.R_alloc | apply Kd.R_drewN | apply Kd.R_drew)); exact HO_3.out⟩, ⟨by (with_reducible repeat (first | apply Kd.R_alloc | apply Kd.R_drewN | apply Kd.R_drew)); exact HO_4.out⟩, ⟨by repeat (first | (with_reducible first | exact HB.out | apply below_alloc | apply pw_below_drewN | apply below_drew1) | exact HB.out)⟩⟩
                                        · rw [if_neg c53] at H
                                          exact absurd H (by simp)
                    · rw [if_neg c12] at H
                      exact absurd H (by simp)
                  · rw [if_neg c10] at H
                    exact absurd H (by simp)
                · rw [if_neg c9] at H
                  exact absurd H (by simp)
              · rw [if_neg c8] at H
                have c8b0 : decide (0 ≤ x6_2) = false := decide_eq_false c8
                clear c8
                have H' := Aside0.mk H
                clear H
                go_wp2
                repeat (go_quiet (fail); try go_wp2)
                go_roundg k2
                case measure => have := HK1.out; have := HK2.out; omega
                case rel => exact ⟨(x4_2), (wrap64 (x5_1 - 1)), (by first | rfl | (simp; done) | (simp [*]; done)), H', ⟨by have := HK1.out; have := HK2.out; omega⟩, ⟨by (with_reducible repeat (first | apply Kd.R_alloc | apply Kd.R_drewN | apply Kd.R_drew)); exact HO_3.out⟩, ⟨by (with_reducible repeat (first | apply Kd.R_alloc | apply Kd.R_drewN | apply Kd.R_drew)); exact HO_4.out⟩, ⟨by repeat (first | (with_reducible first | exact HB.out | apply below_alloc | apply pw_below_drewN | apply below_drew1) | exact HB.out)⟩⟩
        · rw [if_neg c7] at H
          have c7b0 : decide (0 ≤ x5_1) = false := decide_eq_false c7
          clear c7
          obtain ⟨y124, hy124⟩ : ∃ y_ : List Int, y_ = (([] : List Int)) := ⟨_, rfl⟩
          replace H : (spec_l05Mod.l5 k1 x4_1 y124 0) = some r := by first | (rw [hy124]; with_reducible exact H) | (have H2_ := (Option.bind_some _ _).symm.trans H; rw [hy124]; with_reducible exact H2_) | (have H2_ := (Option.bind_some _ _).symm.trans H; with_reducible exact H2_) | with_reducible exact H | (rw [hy124]; exact H) | exact H
          have Ny124 := Aside0.mk hy124
          clear hy124
          have H' := Aside0.mk H
          clear H
          go_wp2_with (first | ((with_reducible refine gate_dst (N := 111) rfl ?_); refine Kd.R_lit (Kd.int .u8) _ 5 ?hg (N := 111) ?hd (xs := ([] : List Int)) (inner := []) (ok := fun _ => True) (okp := fun _ => True) ?hr ?hp (fun _ hk => hk) trivial (Below.refl _ _) (Nat.le_refl _) (by simp) ?_; (case hd => rfl); (case hg => rfl); (case hr => first | (go_simp; done) | (go_simp; rfl)); (case hp => exact (Reps.none _ _)); intro v125 w58 ho59 hb hg_ hnew_; clear hg_ hnew_; (first | rw [← Ny124.out] at ho59 | (simp only [Int.reduceToNat] at ho59; rw [← Ny124.out] at ho59)); have n0_ := Aside0.mk (Kd.R_elder' (by (with_reducible repeat (first | apply Kd.R_alloc | apply Kd.R_drewN | apply Kd.R_drew)); exact HO_3.out) (Kd.R_base ho59) hb); have n1_ := Aside0.mk (Kd.R_below (by (with_reducible repeat (first | apply Kd.R_alloc | apply Kd.R_drewN | apply Kd.R_drew)); exact HO_4.out) hb); have n2_ := Aside0.mk (Kd.R_lower (Kd.R_new' ho59 (Kd.R_lt (by (with_reducible repeat (first | apply Kd.R_alloc | apply Kd.R_drewN | apply Kd.R_drew)); exact HO_3.out))) (below_size (by repeat (first | (with_reducible first | exact HB.out | apply below_alloc | apply pw_below_drewN | apply below_drew1) | exact HB.out)))); have n3_ := Aside0.mk (below_step (by repeat (first | (with_reducible first | exact HB.out | apply below_alloc | apply pw_below_drewN | apply below_drew1) | exact HB.out)) hb); clear HO_3; clear HO_4; clear HB; have HO_3 := n0_; have HO_4 := n1_; have HO126 := n2_; have HB := n3_; clear n0_ n1_ n2_ n3_; clear hb ho59))
          repeat (go_quiet (first | ((with_reducible refine gate_dst (N := 111) rfl ?_); refine Kd.R_lit (Kd.int .u8) _ 5 ?hg (N := 111) ?hd (xs := ([] : List Int)) (inner := []) (ok := fun _ => True) (okp := fun _ => True) ?hr ?hp (fun _ hk => hk) trivial (Below.refl _ _) (Nat.le_refl _) (by simp) ?_; (case hd => rfl); (case hg => rfl); (case hr => first | (go_simp; done) | (go_simp; rfl)); (case hp => exact (Reps.none _ _)); intro v125 w58 ho59 hb hg_ hnew_; clear hg_ hnew_; (first | rw [← Ny124.out] at ho59 | (simp only [Int.reduceToNat] at ho59; rw [← Ny124.out] at ho59)); have n0_ := Aside0.mk (Kd.R_elder' (by (with_reducible repeat (first | apply Kd.R_alloc | apply Kd.R_drewN | apply Kd.R_drew)); exact HO_3.out) (Kd.R_base ho59) hb); have n1_ := Aside0.mk (Kd.R_below (by (with_reducible repeat (first | apply Kd.R_alloc | apply Kd.R_drewN | apply Kd.R_drew)); exact HO_4.out) hb); have n2_ := Aside0.mk (Kd.R_lower (Kd.R_new' ho59 (Kd.R_lt (by (with_reducible repeat (first | apply Kd.R_alloc | apply Kd.R_drewN | apply Kd.R_drew)); exact HO_3.out))) (below_size (by repeat (first | (with_reducible first | exact HB.out | apply below_alloc | apply pw_below_drewN | apply below_drew1) | exact HB.out)))); have n3_ := Aside0.mk (below_step (by repeat (first | (with_reducible first | exact HB.out | apply below_alloc | apply pw_below_drewN | apply below_drew1) | exact HB.out)) hb); clear HO_3; clear HO_4; clear HB; have HO_3 := n0_; have HO_4 := n1_; have HO126 := n2_; have HB := n3_; clear n0_ n1_ n2_ n3_; clear hb ho59)); try go_wp2_with (first | ((with_reducible refine gate_dst (N := 111) rfl ?_); refine Kd.R_lit (Kd.int .u8) _ 5 ?hg (N := 111) ?hd (xs := ([] : List Int)) (inner := []) (ok := fun _ => True) (okp := fun _ => True) ?hr ?hp (fun _ hk => hk) trivial (Below.refl _ _) (Nat.le_refl _) (by simp) ?_; (case hd => rfl); (case hg => rfl); (case hr => first | (go_simp; done) | (go_simp; rfl)); (case hp => exact (Reps.none _ _)); intro v125 w58 ho59 hb hg_ hnew_; clear hg_ hnew_; (first | rw [← Ny124.out] at ho59 | (simp only [Int.reduceToNat] at ho59; rw [← Ny124.out] at ho59)); have n0_ := Aside0.mk (Kd.R_elder' (by (with_reducible repeat (first | apply Kd.R_alloc | apply Kd.R_drewN | apply Kd.R_drew)); exact HO_3.out) (Kd.R_base ho59) hb); have n1_ := Aside0.mk (Kd.R_below (by (with_reducible repeat (first | apply Kd.R_alloc | apply Kd.R_drewN | apply Kd.R_drew)); exact HO_4.out) hb); have n2_ := Aside0.mk (Kd.R_lower (Kd.R_new' ho59 (Kd.R_lt (by (with_reducible repeat (first | apply Kd.R_alloc | apply Kd.R_drewN | apply Kd.R_drew)); exact HO_3.out))) (below_size (by repeat (first | (with_reducible first | exact HB.out | apply below_alloc | apply pw_below_drewN | apply below_drew1) | exact HB.out)))); have n3_ := Aside0.mk (below_step (by repeat (first | (with_reducible first | exact HB.out | apply below_alloc | apply pw_below_drewN | apply below_drew1) | exact HB.out)) hb); clear HO_3; clear HO_4; clear HB; have HO_3 := n0_; have HO_4 := n1_; have HO126 := n2_; have HB := n3_; clear n0_ n1_ n2_ n3_; clear hb ho59)))
          go_loopg [15, 16] k1 (fun kq v15 v16 w' => ∃ (x15_2 : List Int) (x16_2 : Int), v16 = .int .i64 x16_2 ∧ Aside0 (spec_l05Mod.l5 kq x4_1 x15_2 x16_2 = some r) ∧ Aside0 (kq ≤ k1) ∧ Aside0 (Kd.R (Kd.int .i64) 3 w' w.heap.size (fun _ => True) v108 x4_1) ∧ Aside0 (Kd.R (Kd.int .u8) 5 w' w.heap.size (fun _ => True) v15 x15_2) ∧ Aside0 (Below w.heap.size w w'))
          case atStart => exact ⟨(y124), (0), (by first | rfl | (simp; done) | (simp [*]; done)), H', ⟨Nat.le_refl _⟩, ⟨by (with_reducible repeat (first | apply Kd.R_alloc | apply Kd.R_drewN | apply Kd.R_drew)); exact HO_4.out⟩, ⟨by (with_reducible repeat (first | apply Kd.R_alloc | apply Kd.R_drewN | apply Kd.R_drew)); exact Kd.R_mono HO126.out (fun _ hk => trivial)⟩, ⟨by repeat (first | (with_reducible first | exact HB.out | apply below_alloc | apply pw_below_drewN | apply below_drew1) | exact HB.out)⟩⟩
          case round =>
            clear H'
            try clear c1
            try clear p1
            try clear q1
            try clear hx1
            try clear qi1
            try clear hf1
            try clear c2
            try clear p2
            try clear c3
            try clear c3b0
            try clear c3b1
            try clear c4
            try clear p4
            try clear q4
            try clear hx4
            try clear hf4
            try clear c5
            try clear p5
            try clear q5
            try clear hx5
            try clear qi5
            try clear hf5
            try clear p6
            try clear c7
            try clear c7b0
            try clear c8
            try clear c8b0
            try clear c9
            try clear c9b0
            try clear c10
            try clear c10b0
            try clear p11
            try clear q11
            try clear hx11
            try clear c12
            try clear c12b0
            try clear c12b1
            try clear p12
            try clear q12
            try clear hx12
            try clear qi12
            try clear c14
            try clear c14b0
            try clear c15
            try clear c15b0
            try clear c16
            try clear c16b0
            try clear p17
            try clear q17
            try clear hx17
            try clear hf17
            try clear c22
            try clear c22b0
            try clear c23
            try clear c23b0
            try clear c24
            try clear c24b0
            try clear c25
            try clear c25b0
            try clear c26
            try clear c26b0
            try clear c27
            try clear c27b0
            try clear c27b1
            try clear c32
            try clear c32b0
            try clear c33
            try clear c33b0
            try clear c34
            try clear c34b0
            try clear c34b1
            try clear c37
            try clear c38
            try clear c38b0
            try clear c39
            try clear c39b0
            try clear c40
            try clear c40b0
            try clear c41
            try clear c41b0
            try clear c42
            try clear c42b0
            try clear p43
            try clear q43
            try clear hx43
            try clear hf43
            try clear p48
            try clear q48
            try clear hx48
            try clear hf48
            try clear c53
            try clear c53b0
            try clear c53b1
            try clear p54
            try clear q54
            try clear hx54
            try clear qi54
            try clear hf54
            try clear hx110_0
            try clear hx111_0
            try clear hx113_0
            try clear hx114_0
            try clear hx115_0
            try clear hx116_0
            try clear hx117_0
            try clear hx118_0
            try clear hx119_0
            try clear hx122_0
            try clear hx17_0
            try clear hx43_0
            try clear hx48_0
            try clear hx54_0
            try clear p1
            try clear p11
            try clear p110
            try clear p111
            try clear p113
            try clear p114
            try clear p115
            try clear p116
            try clear p117
            try clear p118
            try clear p119
            try clear p122
            try clear p17
            try clear p2
            try clear p43
            try clear p48
            try clear p54
            try clear p6
            try clear q1
            try clear q11
            try clear q110
            try clear q111
            try clear q113
            try clear q114
            try clear q115
            try clear q116
            try clear q117
            try clear q118
            try clear q119
            try clear q122
            try clear q17
            try clear q43
            try clear q48
            try clear q54
            obtain ⟨x15_2, x16_2, rfl, HA, HK2, HO_4, HO_15, HB⟩ := hrel
            cases gk with
            | zero => exact absurd HA.out (by simp [spec_l05Mod.l5])
            | succ k2 =>
              have H := HA.out
              clear HA
              simp only [spec_l05Mod.l5] at H
              by_cases c60 : x16_2 < 32
              · rw [if_pos c60] at H
                have c60b0 : decide (x16_2 < 32) = true := decide_eq_true c60
                clear c60
                by_cases c61 : 0 ≤ x16_2
                · rw [if_pos c61] at H
                  have c61b0 : decide (0 ≤ x16_2) = true := decide_eq_true c61
                  clear c61
                  by_cases c62 : x16_2 < (x4_1.length : Int)
                  · rw [if_pos c62] at H
                    have c62b0 : decide (x16_2 < (x4_1.length : Int)) = true := decide_eq_true c62
                    clear c62
                    by_cases c63 : x15_2.length < 140737488355328
                    · rw [if_pos c63] at H
                      have LMc63 := Aside0.mk c63
                      clear c63
                      obtain ⟨y128, hy128⟩ : ∃ y_ : List Int, y_ = (x15_2 ++ [(rd x4_1 x16_2) % 256]) := ⟨_, rfl⟩
                      replace H : (spec_l05Mod.l5 k2 x4_1 y128 (wrap64 (x16_2 + 1))) = some r := by first | (rw [hy128]; with_reducible exact H) | (have H2_ := (Option.bind_some _ _).symm.trans H; rw [hy128]; with_reducible exact H2_) | (have H2_ := (Option.bind_some _ _).symm.trans H; with_reducible exact H2_) | with_reducible exact H | (rw [hy128]; exact H) | exact H
                      have Ny128 := Aside0.mk hy128
                      clear hy128
                      have H' := Aside0.mk H
                      clear H
                      obtain ⟨Ao64, co64, eo64⟩ := Kd.R_slice HO_4.out
                      subst eo64
                      have p127 : 0 ≤ (x16_2 : Int) := of_decide_eq_true (by first | (with_reducible assumption) | assumption)
                      have q127 : x16_2 < (x4_1.length : Int) := of_decide_eq_true (by first | (with_reducible assumption) | assumption)
                      obtain ⟨ad127, e127, hx127_0⟩ := Kd.at_int (Kd.R_reads' HO_4.out).2.2 x16_2 p127 q127
                      cases e127
                      replace p127 := eq_true p127
                      replace q127 := eq_true q127
                      go_wp2_with (first | ((with_reducible refine gate_builtin (b := .append) (xs := #[.tmp 116, .tmp 122]) rfl ?_); at_builtin; refine Kd.R_append (Kd.int .u8) (w0 := w) w.heap.size rfl (.tmp 116) (.tmp 122) 22 5 (.int .u8 0) 1 rfl Try.underlying22 info5 rfl (by decide) (by omega) u15 x15_2 ((rd x4_1 x16_2) % 256) [.int .u8 ((rd x4_1 x16_2) % 256)] (fun _ => True) (fun _ => False) rfl rfl ?aP (fun _ hk => hk.elim) ?aF ?aO ?aB ?aS ?aL ?_; (case aP => exact rfl); (case aB => exact (by repeat (first | (with_reducible first | exact HB.out | apply below_alloc | apply pw_below_drewN | apply below_drew1) | exact HB.out))); (case aF => exact (fun _ _ => trivial)); (case aO => exact (by (with_reducible repeat (first | apply Kd.R_alloc | apply Kd.R_drewN | apply Kd.R_drew)); exact HO_15.out)); (case aS => exact (below_size (by repeat (first | (with_reducible first | exact HB.out | apply below_alloc | apply pw_below_drewN | apply below_drew1) | exact HB.out)))); (case aL => have := LMc63.out; omega); intro v129 w65 ho hb hg hat; rw [← Ny128.out] at ho; have n0_ := Aside0.mk (Kd.R_over' (by (with_reducible repeat (first | apply Kd.R_alloc | apply Kd.R_drewN | apply Kd.R_drew)); exact HO_4.out) (Kd.R_typed (by (with_reducible repeat (first | apply Kd.R_alloc | apply Kd.R_drewN | apply Kd.R_drew)); exact HO_15.out)) (by decide) hg); have n1_ := Aside0.mk (hb); have n2_ := Aside0.mk (ho); clear HO_4; clear HB; clear HO_15; have HO_4 := n0_; have HB := n1_; have HO130 := n2_; clear n0_ n1_ n2_; clear ho hb hg hat))
                      repeat (go_quiet (first | ((with_reducible refine gate_builtin (b := .append) (xs := #[.tmp 116, .tmp 122]) rfl ?_); at_builtin; refine Kd.R_append (Kd.int .u8) (w0 := w) w.heap.size rfl (.tmp 116) (.tmp 122) 22 5 (.int .u8 0) 1 rfl Try.underlying22 info5 rfl (by decide) (by omega) u15 x15_2 ((rd x4_1 x16_2) % 256) [.int .u8 ((rd x4_1 x16_2) % 256)] (fun _ => True) (fun _ => False) rfl rfl ?aP (fun _ hk => hk.elim) ?aF ?aO ?aB ?aS ?aL ?_; (case aP => exact rfl); (case aB => exact (by repeat (first | (with_reducible first | exact HB.out | apply below_alloc | apply pw_below_drewN | apply below_drew1) | exact HB.out))); (case aF => exact (fun _ _ => trivial)); (case aO => exact (by (with_reducible repeat (first | apply Kd.R_alloc | apply Kd.R_drewN | apply Kd.R_drew)); exact HO_15.out)); (case aS => exact (below_size (by repeat (first | (with_reducible first | exact HB.out | apply below_alloc | apply pw_below_drewN | apply below_drew1) | exact HB.out)))); (case aL => have := LMc63.out; omega); intro v129 w65 ho hb hg hat; rw [← Ny128.out] at ho; have n0_ := Aside0.mk (Kd.R_over' (by (with_reducible repeat (first | apply Kd.R_alloc | apply Kd.R_drewN | apply Kd.R_drew)); exact HO_4.out) (Kd.R_typed (by (with_reducible repeat (first | apply Kd.R_alloc | apply Kd.R_drewN | apply Kd.R_drew)); exact HO_15.out)) (by decide) hg); have n1_ := Aside0.mk (hb); have n2_ := Aside0.mk (ho); clear HO_4; clear HB; clear HO_15; have HO_4 := n0_; have HB := n1_; have HO130 := n2_; clear n0_ n1_ n2_; clear ho hb hg hat)); try go_wp2_with (first | ((with_reducible refine gate_builtin (b := .append) (xs := #[.tmp 116, .tmp 122]) rfl ?_); at_builtin; refine Kd.R_append (Kd.int .u8) (w0 := w) w.heap.size rfl (.tmp 116) (.tmp 122) 22 5 (.int .u8 0) 1 rfl Try.underlying22 info5 rfl (by decide) (by omega) u15 x15_2 ((rd x4_1 x16_2) % 256) [.int .u8 ((rd x4_1 x16_2) % 256)] (fun _ => True) (fun _ => False) rfl rfl ?aP (fun _ hk => hk.elim) ?aF ?aO ?aB ?aS ?aL ?_; (case aP => exact rfl); (case aB => exact (by repeat (first | (with_reducible first | exact HB.out | apply below_alloc | apply pw_below_drewN | apply below_drew1) | exact HB.out))); (case aF => exact (fun _ _ => trivial)); (case aO => exact (by (with_reducible repeat (first | apply Kd.R_alloc | apply Kd.R_drewN | apply Kd.R_drew)); exact HO_15.out)); (case aS => exact (below_size (by repeat (first | (with_reducible first | exact HB.out | apply below_alloc | apply pw_below_drewN | apply below_drew1) | exact HB.out)))); (case aL => have := LMc63.out; omega); intro v129 w65 ho hb hg hat; rw [← Ny128.out] at ho; have n0_ := Aside0.mk (Kd.R_over' (by (with_reducible repeat (first | apply Kd.R_alloc | apply Kd.R_drewN | apply Kd.R_drew)); exact HO_4.out) (Kd.R_typed (by (with_reducible repeat (first | apply Kd.R_alloc | apply Kd.R_drewN | apply Kd.R_drew)); exact HO_15.out)) (by decide) hg); have n1_ := Aside0.mk (hb); have n2_ := Aside0.mk (ho); clear HO_4; clear HB; clear HO_15; have HO_4 := n0_; have HB := n1_; have HO130 := n2_; clear n0_ n1_ n2_; clear ho hb hg hat)))
                      go_roundg k2
                      case measure => have := HK1.out; have := HK2.out; omega
                      case rel => exact ⟨(y128), (wrap64 (x16_2 + 1)), (by first | rfl | (simp; done) | (simp [*]; done)), H', ⟨by have := HK1.out; have := HK2.out; omega⟩, ⟨by (with_reducible repeat (first | apply Kd.R_alloc | apply Kd.R_drewN | apply Kd.R_drew)); exact HO_4.out⟩, ⟨by (with_reducible repeat (first | apply Kd.R_alloc | apply Kd.R_drewN | apply Kd.R_drew)); exact HO130.out⟩, ⟨by repeat (first | (with_reducible first | exact HB.out | apply below_alloc | apply pw_below_drewN | apply below_drew1) | exact HB.out)⟩⟩
                    · rw [if_neg c63] at H
                      exact absurd H (by simp)
                  · rw [if_neg c62] at H
                    exact absurd H (by simp)
                · rw [if_neg c61] at H
                  exact absurd H (by simp)
              · rw [if_neg c60] at H
                have c60b0 : decide (x16_2 < 32) = false := decide_eq_false c60
                clear c60
                obtain rfl := Option.some.inj H
                go_wp2
                repeat (go_quiet (fail); try go_wp2)
                go_ret
                exact ⟨_, by first | rfl | (simp [errW_none, errW_some] <;> rfl) | (simp [*, errW_none, errW_some] <;> rfl), by (with_reducible repeat (first | apply Kd.R_alloc | apply Kd.R_drewN | apply Kd.R_drew)); exact HO_15.out, by repeat (first | (with_reducible first | exact HB.out | apply below_alloc | apply pw_below_drewN | apply below_drew1) | exact HB.out)⟩
  · rw [if_neg c3] at H
    exact absurd H (by simp)
def srcL (code : List Int) : Nat → List Int
  | 0 => []
  | k + 1 => srcL code k ++ [byN code (k + 1)]
def srcM (code : List Int) : Nat := (byN code 0 % 41).toNat
def srcB (code : List Int) : List Int := srcL code (srcM code)
theorem srcL_length (code : List Int) (k : Nat) : (srcL code k).length = k := by
  induction k with
  | zero => rfl
  | succ k ih => show (srcL code k ++ [_]).length = _; rw [List.length_append, ih]; rfl
theorem srcL_ok (code : List Int) (ho : Ok 256 code) (k : Nat) : Ok 256 (srcL code k) := by
  induction k with
  | zero => intro x hx; simp [srcL] at hx
  | succ k ih =>
    intro x hx
    rcases List.mem_append.mp (show x ∈ srcL code k ++ [_] from hx) with hx | hx
    · exact ih x hx
    · rw [List.mem_singleton] at hx; subst hx
      have h := byN_range code ho (k + 1)
      exact ⟨h.1, by have := h.2; show _ < ((256 : Nat) : Int); omega⟩
theorem srcB_len (code : List Int) (ho : Ok 256 code) : (srcB code).length ≤ 40 := by
  unfold srcB; rw [srcL_length]; unfold srcM
  have := byN_range code ho 0
  omega
theorem below_two {B B2 : Nat} {w0 W W2 : World} (h : Below B w0 W) (k : Below B2 W W2) (hle : B ≤ B2) : Below B w0 W2 :=
  ⟨k.os.trans h.os, k.tape.trans h.tape, k.output.trans h.output, Nat.le_trans h.size k.size, fun i hi => (k.block i (by omega)).trans (h.block i hi)⟩
set_option maxHeartbeats 4000000 in
set_option maxRecDepth 100000 in
theorem l00bytes.calls (g : Nat) (A : Option Addr) (c : Nat) (code : List Int) (w0 w : World) (hg : w.heap[g]? = some (.cells #[.slice A code.length c, .int .i64 (0), .int .i64 (sdN code (0))] 58 (0, 0)))
    (hC : Kd.C (Kd.int .u8) w0 A code.length code) (hB : Below w0.heap.size w0 w) (hgb : w0.heap.size ≤ g) (ho : Ok 256 code) (hl : code.length < 1099511627776) :
    Calls Try.prog 60 #[.pointer (some ⟨g, 0, none⟩), .int .i64 40] w fun e w' => ∃ v, e = .returned v ∧ Kd.R (Kd.int .u8) 5 w' w0.heap.size (fun _ => True) v (srcB code) ∧ Below w0.heap.size w0 w' := by
  have infoE : (Try.prog.info? 5).map (fun i => (i.zero, i.size, i.bytes)) = some (some (.int .u8 0), 1, 1) := by kernel_rfl
  have INFO := Aside0.mk infoE
  have HN := Aside0.mk (fun k n W (hW : W.heap[g]? = some (.cells #[.slice A code.length c, .int .i64 ((k : Nat) : Int), .int .i64 (sdN code (k))] 58 (0, 0))) (hb : Below w0.heap.size w0 W) (hk : k < 1000000) (h1 : 2 ≤ n) (h2 : n ≤ 256) => l00next.calls g A c code k n w0 W hW hC hb hgb ho hk hl h1 h2)
  have HG := Aside0.mk hg
  have HB := Aside0.mk hB
  have HGB := Aside0.mk hgb
  have HGL := Aside0.mk (blk_lt hg)
  have RG := Aside0.mk (fun k => byN_range code ho k)
  obtain ⟨m, hm⟩ : ∃ m, m = srcM code := ⟨_, rfl⟩
  have EM := Aside0.mk (show srcB code = srcL code m by rw [hm]; rfl)
  have hmi : byN code 0 % 41 = (m : Int) := by rw [hm]; unfold srcM; have := byN_range code ho 0; omega
  have hm40 : m ≤ 40 := by have := byN_range code ho 0; omega
  clear hg hC hB hgb infoE hm
  have HWB := Aside0.mk HB.out.size
  have N0 := Aside0.mk (fun W (h1 : W.heap[g]? = some (.cells #[.slice A code.length c, .int .i64 (((0 : Nat) : Int)), .int .i64 (sdN code (0))] 58 (0, 0))) (h2 : Below w0.heap.size w0 W) => (show Calls Try.prog 31 #[.pointer (some ⟨g, 0, none⟩), .int .i64 41] W fun e w' => e = .returned (.int .i64 (m : Int)) ∧ w'.heap[g]? = some (.cells #[.slice A code.length c, .int .i64 (((0 + 1 : Nat) : Int)), .int .i64 (sdN code (0 + 1))] 58 (0, 0)) ∧ Ch g W w' from by have h := HN.out 0 41 W h1 h2 (by omega) (by omega) (by omega); rw [hmi] at h; exact h))
  have NB := Aside0.mk (fun j W (hj : j < 1000) (h1 : W.heap[g]? = some (.cells #[.slice A code.length c, .int .i64 (((j + 1 : Nat) : Int)), .int .i64 (sdN code (j + 1))] 58 (0, 0))) (h2 : Below w0.heap.size w0 W) => (show Calls Try.prog 31 #[.pointer (some ⟨g, 0, none⟩), .int .i64 256] W fun e w' => e = .returned (.int .i64 (byN code (j + 1))) ∧ w'.heap[g]? = some (.cells #[.slice A code.length c, .int .i64 (((j + 1 + 1 : Nat) : Int)), .int .i64 (sdN code (j + 1 + 1))] 58 (0, 0)) ∧ Ch g W w' from by have h := HN.out (j + 1) 256 W h1 h2 (by omega) (by omega) (by omega); rw [show byN code (j + 1) % 256 = byN code (j + 1) from by have := RG.out (j + 1); omega] at h; exact h))
  clear hmi
  go_enter Try.func60, Try.ntmps60
  go_wp2_with (first
    | ((with_reducible refine gate_dst (N := 7) rfl ?_); refine Kd.R_lit (w0 := w) (Kd.int .u8) w.heap.size 5 rfl (N := 7) rfl (xs := ([] : List Int)) (inner := []) (ok := fun _ => True) (okp := fun _ => True) ?hr ?hp (fun _ hk => hk) trivial (Below.refl _ _) (Nat.le_refl _) (by simp) ?_; (case hr => first | (go_simp; done) | (go_simp; rfl)); (case hp => exact Kd.reps_scalar _); intro v1 w1 ho hb hg_ hnew_; have R := Aside0.mk ho; have B := Aside0.mk (below_two HB.out hb HWB.out); have G := Aside0.mk ((hb.block g HGL.out).trans HG.out); have SZ := Aside0.mk hb.size; clear ho hb hg_ hnew_)
    | ((with_reducible refine (N0.out _ G.out B.out).mono ?_); rintro e w2 ⟨rfl, hG, hch⟩; have R := Aside0.mk (R_ch R.out hch HGL.out); have B := Aside0.mk (hch.bel _ _ B.out HGB.out); have SZ := Aside0.mk (by rw [hch.siz]; exact SZ.out : w.heap.size ≤ w2.heap.size); have G := Aside0.mk hG; clear hG hch))
  go_loopg [5, 6] (m + 1) (fun gg v5 v6 wr => ∃ (j i : Nat) (vv : Value), i + j = m ∧ i ≤ gg ∧ v6 = .int .i64 (i : Int) ∧ vv = v5 ∧ Aside0 (Kd.R (Kd.int .u8) 5 wr w.heap.size (fun _ => True) vv (srcL code j)) ∧ Aside0 (wr.heap[g]? = some (.cells #[.slice A code.length c, .int .i64 (((j + 1 : Nat) : Int)), .int .i64 (sdN code (j + 1))] 58 (0, 0))) ∧ Aside0 (Below w0.heap.size w0 wr) ∧ Aside0 (w.heap.size ≤ wr.heap.size))
  case atStart => exact ⟨0, m, _, by omega, by omega, rfl, rfl, R, G, B, SZ⟩
  case round =>
    clear R G B SZ
    obtain ⟨j, i, vv, hij, hg, rfl, rfl, R, G, B, SZ⟩ := hrel
    rcases Nat.eq_zero_or_pos i with h0 | h0
    · subst h0
      obtain rfl : j = m := by omega
      have hneg : ¬ ((0 : Nat) : Int) > 0 := by omega
      clear hij hg
      go_wp2
      go_ret
      exact ⟨_, rfl, by rw [EM.out]; exact Kd.R_lower R.out HWB.out, B.out⟩
    · obtain ⟨i, rfl⟩ : ∃ k, i = k + 1 := ⟨i - 1, by omega⟩
      have hpos : (((i + 1 : Nat)) : Int) > 0 := by omega
      have hsub : (((i + 1 : Nat)) : Int) - 1 = (i : Int) := by omega
      have hi9 : i < 1000 := by omega
      have EQ := Aside0.mk (show srcL code (j + 1) = srcL code j ++ [byN code (j + 1)] from rfl)
      have LL := Aside0.mk (show (srcL code j).length + 1 < 1000 by rw [srcL_length]; omega)
      have NJ := Aside0.mk (fun W h1 h2 => NB.out j W (by omega) h1 h2)
      have rx := RG.out (j + 1)
      obtain ⟨x, hx⟩ : ∃ x, x = byN code (j + 1) := ⟨_, rfl⟩
      rw [← hx] at EQ NJ rx
      have x0 := rx.1
      have x1 := rx.2
      clear hx rx
      generalize srcL code j = xs at *
      go_wp2_with (first
        | ((with_reducible refine (NJ.out _ G.out B.out).mono ?_); rintro e w5 ⟨rfl, hG, hch⟩; have R := Aside0.mk (R_ch R.out hch HGL.out); have B := Aside0.mk (hch.bel _ _ B.out HGB.out); have SZ := Aside0.mk (by rw [hch.siz]; exact SZ.out : w.heap.size ≤ w5.heap.size); have G := Aside0.mk hG; clear hG hch)
        | ((with_reducible refine gate_builtin (b := .append) (xs := #[.tmp 16, .tmp 20]) rfl ?_); at_builtin; refine Kd.R_append (Kd.int .u8) (w0 := w5) w.heap.size rfl (.tmp 16) (.tmp 20) 22 5 (.int .u8 0) 1 rfl Try.underlying22 INFO.out rfl (by decide) (by decide) vv xs x [.int .u8 x] (fun _ => True) (fun _ => False) rfl rfl ?aP (fun _ hk => hk.elim) ?aF ?aO ?aB ?aS ?aL ?_; (case aP => exact rfl); (case aB => exact (Below.refl _ _)); (case aF => exact (fun _ _ => trivial)); (case aO => exact R.out); (case aS => exact SZ.out); (case aL => have := LL.out; omega); intro v6_ w6 ho hb hg2 hat; rw [← EQ.out] at ho; have R := Aside0.mk ho; have G := Aside0.mk ((hb.block g HGL.out).trans G.out); have B := Aside0.mk (below_two B.out hb HWB.out); have SZ := Aside0.mk (Nat.le_trans SZ.out hb.size); clear ho hb hg2 hat))
      go_roundg i
      case measure => omega
      case rel => exact ⟨j + 1, i, _, by omega, Nat.le_refl _, by first | rfl | go_num, rfl, R, G, B, SZ⟩
set_option maxHeartbeats 4000000 in
set_option maxRecDepth 100000 in
theorem l00scalar.calls (k : Nat) (r : List Int) (g : Nat) (A : Option Addr) (c : Nat) (code : List Int) (w0 w : World) (hg : w.heap[g]? = some (.cells #[.slice A code.length c, .int .i64 (0), .int .i64 (sdN code (0))] 58 (0, 0)))
    (hC : Kd.C (Kd.int .u8) w0 A code.length code) (hB : Below w0.heap.size w0 w) (hgb : w0.heap.size ≤ g) (ho : Ok 256 code) (hl : code.length < 1099511627776) (h : spec_l05Mod.f k (srcB code) = some r) :
    Calls Try.prog 23 #[.pointer (some ⟨g, 0, none⟩)] w fun e w' => ∃ v, e = .returned v ∧ Kd.R (Kd.int .u8) 5 w' w0.heap.size (fun _ => True) v r ∧ Below w0.heap.size w0 w' := by
  have HB := Aside0.mk (l00bytes.calls g A c code w0 w hg hC hB hgb ho hl)
  have HM := Aside0.mk (fun A1 c1 W (hr : Kd.C (Kd.int .u8) W A1 (srcB code).length (srcB code)) (hc : (srcB code).length ≤ c1) => spec_l05Mod.calls k A1 c1 (srcB code) r W hr hc h)
  clear hg hC hB hgb ho hl h
  generalize srcB code = bs at *
  go_enter Try.func23, Try.ntmps23
  go_wp2_with (first
    | ((with_reducible refine (HB.out).mono ?_); rintro e w1 ⟨v, rfl, hR, hb⟩; obtain ⟨A1, c1, rfl, hcl, hC⟩ := Kd.R_reads hR; have B := Aside0.mk hb; have HMM := Aside0.mk (HM.out A1 c1 w1 hC hcl); clear hR hb hcl hC)
    | ((with_reducible refine (HMM.out).mono ?_); rintro e w2 ⟨v2, rfl, hR, hb⟩; have R := Aside0.mk (Kd.R_lower hR (below_size B.out)); have B2 := Aside0.mk (below_step B.out hb); clear hR hb))
  go_ret
  exact ⟨_, rfl, R.out, B2.out⟩
def spec_ScalarsOf.f (k : Nat) (l0 : List Int) : Option (List Int) := if okB l0 && decide (l0.length < 1099511627776) then spec_l05Mod.f k (srcB l0) else none
theorem spec_ScalarsOf.mono : ∀ a0 k, LeO (spec_ScalarsOf.f k a0) (spec_ScalarsOf.f (k + 1) a0) := by
  intro a0 k r h
  unfold spec_ScalarsOf.f at h ⊢
  split
  · rename_i ho
    rw [if_pos ho] at h
    exact spec_l05Mod.mono _ k r h
  · rename_i ho
    rw [if_neg ho] at h; cases h
set_option maxHeartbeats 4000000 in
set_option maxRecDepth 100000 in
theorem spec_ScalarsOf.calls (k : Nat) (A0 : Option Addr) (c0 : Nat) (l0 : List Int) (r : List Int) (w : World) (hr0 : Kd.C (Kd.int .u8) w A0 l0.length l0) (hc0 : l0.length ≤ c0) (h : spec_ScalarsOf.f k l0 = some r) :
    Calls Try.prog 8 #[.slice A0 l0.length c0] w fun e w' => ∃ v0_ : Value, e = .returned (v0_) ∧ Kd.R (Kd.int .u8) 5 w' w.heap.size (fun _ => True) v0_ r ∧ Below w.heap.size w w' := by
  unfold spec_ScalarsOf.f at h
  by_cases ho : (okB l0 && decide (l0.length < 1099511627776)) = true
  · rw [if_pos ho] at h
    rw [Bool.and_eq_true, decide_eq_true_iff] at ho
    have HS := Aside0.mk (l00Source.calls A0 c0 l0 w ho.2)
    have HE := Aside0.mk (l00scalar.calls k r w.heap.size A0 c0 l0 w (w.alloc (.cells #[.slice A0 l0.length c0, .int .i64 0, .int .i64 (sdN l0 0)] 58)) (blk_new w _) hr0 (below_alloc (Below.refl _ _) _) (Nat.le_refl _) (okB_ok l0 ho.1) ho.2 h)
    clear hr0 ho h
    generalize sdN l0 0 = s0 at *
    go_enter Try.func8, Try.ntmps8
    go_wp2_with (first
      | ((with_reducible refine (HS.out).mono ?_); rintro e w1 ⟨rfl, rfl⟩)
      | ((with_reducible refine (HE.out).mono ?_); rintro e w2 ⟨v, rfl, hR, hb⟩; have HR := Aside0.mk hR; have HB := Aside0.mk hb; clear hR hb))
    go_ret
    exact ⟨_, rfl, HR.out, HB.out⟩
  · rw [if_neg ho] at h; cases h
theorem enters_rows {f : FuncId} {fn : Func} (hf : Try.prog.funcs[f]? = some fn) (hname : (fn.name == "runtime.NumGoroutine") = false) (hb : fn.body.isSome = true) : ∀ args w, (callFunc f args).run Try.prog w = .ok (.enter f args) w :=
  fun args w => enters_ hf hname hb args w
set_option maxHeartbeats 2000000 in
theorem indexRows.calls (gf : FuncId) (lb : Array Value) (p : Nat → Bool) (eg : ∀ args w, (callFunc gf args).run Try.prog w = .ok (.enter gf args) w) (g n c0 : Nat) (v : Nat → Value) (w : World) (hgs : g < w.heap.size) (hn : n ≤ 1000) (hv : ∀ i, i < n → w.cell? ⟨g, i, none⟩ = some (v i))
    (hp : ∀ (i : Nat) (W : World), i < n → Below w.heap.size w W → Calls Try.prog gf (#[v i] ++ lb) W fun e w' => e = .returned (.bool (p i)) ∧ Below W.heap.size W w') :
    Calls Try.prog 81 #[.slice (some ⟨g, 0, none⟩) n c0, .func (.func gf) #[] lb] w fun e w' => ∃ r : Int, e = .returned (.int .i64 r) ∧ decide (0 ≤ r) = (List.range n).any p ∧ Below w.heap.size w w' := by
  have HP := Aside0.mk hp
  have HV := Aside0.mk hv
  have HG := Aside0.mk hgs
  have HN := Aside0.mk hn
  clear hp hv hgs hn
  go_enter Try.func81, Try.ntmps81
  go_wp2
  go_loopg [5, 8] n (fun gg _ s8 wr => ∃ kk : Nat, kk ≤ n ∧ n - kk ≤ gg ∧ s8 = .int .i64 kk ∧ Aside0 (Below w.heap.size w wr) ∧ Aside0 (∀ j, j < kk → p j = false))
  case atStart => exact ⟨0, Nat.zero_le _, by omega, rfl, ⟨Below.refl _ _⟩, ⟨fun j hj => absurd hj (Nat.not_lt_zero _)⟩⟩
  case round =>
    obtain ⟨kk, hkk, hg, rfl, HB, A⟩ := hrel
    have hn := HN.out
    by_cases hlt : kk < n
    · have hltz : (kk : Int) < (n : Int) := by omega
      have hx : wr.cell? ⟨g, kk, none⟩ = some (v kk) := by rw [HB.out.cell (p := ⟨g, kk, none⟩) HG.out]; exact HV.out kk hlt
      have hcall := HP.out kk wr hlt HB.out
      generalize v kk = vk at *
      cases hq : p kk with
      | true =>
        rw [hq] at hcall
        have HC := Aside0.mk hcall
        have HQ := Aside0.mk hq
        clear hcall hq
        go_wp2_with ((with_reducible refine (HC.out).mono ?_); rintro e w' ⟨rfl, hb⟩)
        go_ret
        refine ⟨_, rfl, ?_, below_step HB.out hb⟩
        rw [List.any_eq_true.2 ⟨kk, List.mem_range.2 hlt, HQ.out⟩]
        simp
      | false =>
        rw [hq] at hcall
        have HC := Aside0.mk hcall
        have HQ := Aside0.mk hq
        clear hcall hq
        go_wp2_with ((with_reducible refine (HC.out).mono ?_); rintro e w' ⟨rfl, hb⟩)
        go_roundg (n - (kk + 1))
        case measure => omega
        case rel =>
          refine ⟨kk + 1, by omega, by omega, by go_num, ⟨below_step HB.out hb⟩, ⟨fun j hj => ?_⟩⟩
          by_cases e : j = kk
          · rw [e]; exact HQ.out
          · exact A.out j (by omega)
    · have hltz : ¬ (kk : Int) < (n : Int) := by omega
      have hkl : kk = n := by omega
      have HK := Aside0.mk hkl
      clear hkl
      go_wp2
      go_ret
      refine ⟨_, rfl, ?_, HB.out⟩
      have : (List.range n).any p = false := by
        rw [List.any_eq_false]
        intro x hx
        have := A.out x (by have := HK.out; have := List.mem_range.1 hx; omega)
        simpa using this
      rw [this]; rfl
set_option maxHeartbeats 2000000 in
theorem containsRows.calls (gf : FuncId) (lb : Array Value) (p : Nat → Bool) (eg : ∀ args w, (callFunc gf args).run Try.prog w = .ok (.enter gf args) w) (g n c0 : Nat) (v : Nat → Value) (w : World) (hgs : g < w.heap.size) (hn : n ≤ 1000) (hv : ∀ i, i < n → w.cell? ⟨g, i, none⟩ = some (v i))
    (hp : ∀ (i : Nat) (W : World), i < n → Below w.heap.size w W → Calls Try.prog gf (#[v i] ++ lb) W fun e w' => e = .returned (.bool (p i)) ∧ Below W.heap.size W w') :
    Calls Try.prog 61 #[.slice (some ⟨g, 0, none⟩) n c0, .func (.func gf) #[] lb] w fun e w' => e = .returned (.bool ((List.range n).any p)) ∧ Below w.heap.size w w' := by
  have HC := Aside0.mk (indexRows.calls gf lb p eg g n c0 v w hgs hn hv hp)
  clear hp hv hgs hn
  go_enter Try.func61, Try.ntmps61
  go_wp2_with ((with_reducible refine (HC.out).mono ?_); rintro e w' ⟨r, rfl, hr, hb⟩; have HQ := Aside0.mk hr; clear hr)
  go_ret
  refine ⟨?_, hb⟩
  rw [← HQ.out]; rfl
set_option maxHeartbeats 2000000 in
theorem allRows.lit (gf : FuncId) (lb : Array Value) (b : Bool) (eg : ∀ args w, (callFunc gf args).run Try.prog w = .ok (.enter gf args) w) (x : Value) (a : Addr) (w : World) (ha : w.cell? a = some (.func (.func gf) #[] lb))
    (hp : Calls Try.prog gf (#[x] ++ lb) w fun e w' => e = .returned (.bool b) ∧ Below w.heap.size w w') :
    Calls Try.prog 62 #[x, .pointer (some a)] w fun e w' => e = .returned (.bool (!b)) ∧ Below w.heap.size w w' := by
  have HC := Aside0.mk hp
  clear hp
  go_enter Try.func62, Try.ntmps62
  go_wp2_with ((with_reducible refine (HC.out).mono ?_); rintro e w' ⟨rfl, hb⟩)
  go_ret
  exact ⟨rfl, hb⟩
set_option maxHeartbeats 2000000 in
theorem allRows.calls (gf : FuncId) (lb : Array Value) (p : Nat → Bool) (eg : ∀ args w, (callFunc gf args).run Try.prog w = .ok (.enter gf args) w) (g n c0 : Nat) (v : Nat → Value) (w : World) (hgs : g < w.heap.size) (hn : n ≤ 1000) (hv : ∀ i, i < n → w.cell? ⟨g, i, none⟩ = some (v i))
    (hp : ∀ (i : Nat) (W : World), i < n → Below w.heap.size w W → Calls Try.prog gf (#[v i] ++ lb) W fun e w' => e = .returned (.bool (p i)) ∧ Below W.heap.size W w') :
    Calls Try.prog 24 #[.slice (some ⟨g, 0, none⟩) n c0, .func (.func gf) #[] lb] w fun e w' => e = .returned (.bool ((List.range n).all p)) ∧ Below w.heap.size w w' := by
  have HP := Aside0.mk hp
  have HE := Aside0.mk eg
  have h1 : Below w.heap.size w (w.alloc (.cells #[.func (.func gf) #[] lb] 26)) := below_alloc (Below.refl _ _) _
  have h2 : (w.alloc (.cells #[.func (.func gf) #[] lb] 26)).cell? ⟨w.heap.size, 0, none⟩ = some (.func (.func gf) #[] lb) := by go_simp
  have h3 : w.heap.size < (w.alloc (.cells #[.func (.func gf) #[] lb] 26)).heap.size := by simp
  have HC := Aside0.mk (containsRows.calls 62 #[.pointer (some ⟨w.heap.size, 0, none⟩)] (fun x => !p x) (enters_rows Try.func62 rfl rfl) g n c0 v (w.alloc (.cells #[.func (.func gf) #[] lb] 26)) (by omega) hn (fun i hi => by rw [h1.cell (p := ⟨g, i, none⟩) hgs]; exact hv i hi) (fun i W hi hb =>
    allRows.lit gf lb (p i) HE.out (v i) ⟨w.heap.size, 0, none⟩ W (by rw [hb.cell (p := ⟨w.heap.size, 0, none⟩) h3]; exact h2) (HP.out i W hi (below_step h1 hb))))
  have H1 := Aside0.mk h1
  clear h1 h2 h3 hp hv hgs hn
  go_enter Try.func24, Try.ntmps24
  go_wp2_with ((with_reducible refine (HC.out).mono ?_); rintro e w' ⟨rfl, hb⟩)
  go_ret
  refine ⟨?_, below_step H1.out hb⟩
  rw [List.all_eq_not_any_not]; rfl
set_option maxHeartbeats 1000000 in
set_option maxRecDepth 100000 in
theorem impl_order.calls (w : World) :
    Calls Try.prog 64 #[] w fun e w' => e = .returned (.agg (arr .u64 (num orderN))) ∧ Below w.heap.size w w' := by
  rw [← num_order]
  go_enter Try.func64, Try.ntmps64
  go_wp2
  exact bodyPost_ret (results_cell_row Try.results64 _ _ w.heap.size 52 _ (0, 0) _ rfl (blk_new w _) Try.underlying52 rfl (by kernel_rfl)) rfl ⟨by rfl, below_alloc (Below.refl _ _) _⟩
set_option maxHeartbeats 4000000 in
set_option maxRecDepth 100000 in
theorem impl_isScalar.calls (A0 : Option Addr) (c0 : Nat) (l0 : List Int) (w : World) (hr0 : Kd.C (Kd.int .u8) w A0 l0.length l0) (hc0 : l0.length ≤ c0) (ho : okB l0 = true) :
    Calls Try.prog 25 #[.slice A0 l0.length c0] w fun e w' => e = .returned (.bool (isSc l0)) ∧ Below w.heap.size w w' := by
  have HR := Aside0.mk hr0
  clear hr0
  have OK := Aside0.mk (okB_ok l0 ho)
  by_cases hl : l0.length = 32
  · have e : isSc l0 = decide (bval l0 % P64 ^ 4 < orderN % P64 ^ 4) := by
      have := bval_lt32 l0 OK.out hl
      unfold isSc
      rw [decide_eq_true hl, Bool.true_and, Nat.mod_eq_of_lt (show bval l0 < P64 ^ 4 from this), Nat.mod_eq_of_lt (show orderN < P64 ^ 4 by decide)]
    rw [e]
    have HC : Aside0 (Calls Try.prog 27 #[.slice A0 32 c0] w fun e w' => e = .returned (.agg (arr .u64 (num (bval l0)))) ∧ Below w.heap.size w w') := by
      have := impl_numberOf.calls A0 c0 l0 w HR.out (by omega) OK.out
      rw [hl] at this
      exact ⟨this⟩
    clear e ho
    have hll : (l0.length : Int) = 32 := by omega
    go_enter Try.func25, Try.ntmps25
    go_wp2_with (first
      | ((with_reducible refine (HC.out).mono ?_); rintro e w1 ⟨rfl, hb1⟩; have B1 := Aside0.mk hb1; clear hb1)
      | ((with_reducible refine (impl_order.calls _).mono ?_); rintro e w2 ⟨rfl, hb1⟩; have B2 := Aside0.mk (below_step B1.out hb1); clear hb1 B1)
      | ((with_reducible refine (impl_number_less.calls _ _ _).mono ?_); rintro e w3 ⟨rfl, hb1⟩; have B3 := Aside0.mk (below_step B2.out hb1); clear hb1 B2))
    go_ret
    exact ⟨rfl, B3.out⟩
  · have e : isSc l0 = false := by unfold isSc; rw [decide_eq_false hl]; rfl
    rw [e]
    have hll : ¬ (l0.length : Int) = 32 := by omega
    go_enter Try.func25, Try.ntmps25
    go_wp2
    refine bodyPost_ret (results_tmp Try.results25 _ _ _) (by rfl) ⟨rfl, Below.refl _ _⟩
set_option maxHeartbeats 1000000 in
set_option maxRecDepth 100000 in
theorem impl_wide_scalar.calls (W : Nat) (w : World) (hW : W < P64 ^ 8) :
    Calls Try.prog 66 #[.agg (arr .u64 (wid W))] w fun e w' => e = .returned (.agg (arr .u64 (num (W % orderN)))) ∧ Below w.heap.size w w' := by
  have S := Aside0.mk ((((St.start w).push rfl 81 .u64 (wid W)).push (World.size_alloc ..) 52 .u64 z4).push (by rw [World.size_alloc, World.size_alloc]; rfl) 52 .u64 z4)
  have H0 := Aside0.mk (show num (W / 2 ^ 512 % orderN) = z4 from wide_top W 512 hW rfl)
  have LW := Aside0.mk (wid_length W)
  clear hW
  go_enter Try.func66, Try.ntmps66
  go_wp2
  go_loopg [4] 513 (fun gg s4 wr => ∃ k : Nat, k ≤ 512 ∧ k ≤ gg ∧ s4 = .int .i64 ((k : Int) - 1) ∧ Aside0 (St w [⟨81, .u64, wid W⟩, ⟨52, .u64, z4⟩, ⟨52, .u64, num (W / 2 ^ k % orderN)⟩] wr))
  case atStart => exact ⟨512, Nat.le_refl _, by omega, rfl, by rw [H0.out]; exact S⟩
  case round =>
    obtain ⟨k, hk, hg, rfl, S1⟩ := hrel
    rcases Nat.eq_zero_or_pos k with h0 | h0
    · subst h0
      have e0 : ((0 : Nat) : Int) - 1 = -1 := rfl
      rw [e0]
      rw [Nat.pow_zero, Nat.div_one] at S1
      go_wp2_with (first
        | ((with_reducible refine gate_dst (N := 37) rfl ?_); refine ld_arr rfl 52 (.tmp 3) rfl (w.heap.size + 2) rfl (S1.out.blk 2 rfl) Try.underlying52 (m := 4) (by kernel_rfl) (num_length _) ?_)
        | (refine st_arr rfl 52 (.tmp 2) (.tmp 37) rfl (w.heap.size + 1) (xs := num (W % orderN)) rfl rfl (S1.out.blk 1 rfl) (m := 4) (by kernel_rfl) (num_length _) (by rw [num_length]; rfl) ?_; intro w' h1 h2 h4 h3; have H1 := Aside0.mk h1; have S2 := Aside0.mk (S1.out.row 1 rfl h1 h2 h3); clear h1 h2 h3 h4))
      exact bodyPost_ret (results_cell_row Try.results66 _ _ (w.heap.size + 1) 52 _ (0, 0) _ rfl H1.out Try.underlying52 rfl (by rw [arr_size, num_length]; kernel_rfl)) rfl ⟨rfl, S2.out.below⟩
    · obtain ⟨i, rfl⟩ : ∃ i, k = i + 1 := ⟨k - 1, by omega⟩
      have e0 : (((i + 1 : Nat)) : Int) - 1 = (i : Int) := by omega
      rw [e0]
      have hi0 : (i : Int) ≥ 0 := by omega
      have hi5 : i < 512 := by omega
      obtain ⟨x, hx⟩ : ∃ x, x = W / 2 ^ (i + 1) % orderN := ⟨_, rfl⟩
      obtain ⟨b, hb⟩ : ∃ b, b = W / 2 ^ i % 2 := ⟨_, rfl⟩
      have hbit := wid_and W i hi5
      have hxo : x < orderN := by rw [hx]; exact Nat.mod_lt _ (by decide)
      have hRM := round_mod W i
      rw [← hx] at S1 hRM
      rw [← hb] at hbit hRM
      have hb2 : b < 2 := by omega
      have HEV := Aside0.mk (even_or x b hb2)
      have HPL := Aside0.mk (fun W' => impl_number_plus.calls x x W')
      have e2 : x + x = 2 * x := by omega
      rw [e2] at HPL
      obtain ⟨cv, hcv⟩ : ∃ cv, cv = (((x % P64 ^ 4 + x % P64 ^ 4) / P64 ^ 4 : Nat) : Int) := ⟨_, rfl⟩
      rw [← hcv] at HPL
      obtain ⟨y, hy⟩ : ∃ y, y = 2 * x + b := ⟨_, rfl⟩
      have HRM := Aside0.mk hRM
      have HY := Aside0.mk hy
      have HXO := Aside0.mk hxo
      clear hcv hRM hx hb hxo
      obtain ⟨j, hj⟩ : ∃ j : Nat, j = i / 64 := ⟨_, rfl⟩
      obtain ⟨q, hq⟩ : ∃ q : Nat, q = i % 64 := ⟨_, rfl⟩
      have hj1 : (i : Int) / 64 = (j : Int) := by omega
      have hj3 : (i : Int).tdiv 64 = (j : Int) := by rw [Int.tdiv_eq_ediv_of_nonneg (by omega)]; omega
      have hq1 : (i : Int) % 64 = (q : Int) := by omega
      have hq2 : (i : Int).tmod 64 = (q : Int) := by rw [Int.tmod_eq_emod_of_nonneg (by omega)]; omega
      have j8 : (j : Int) < 8 := by omega
      have q63 : (q : Int) < 64 := by omega
      have j8n : j < 8 := by omega
      have q63n : q < 64 := by omega
      have m63 : min q 64 = q := by omega
      have wj : IntKind.i64.wrap (j : Int) = (j : Int) := by rw [IntKind.wrap_i64]; omega
      have wq : IntKind.i64.wrap (q : Int) = (q : Int) := by rw [IntKind.wrap_i64]; omega
      rw [← hj, ← hq] at hbit
      clear hj hq hy e0
      go_wp2_with (first
        | ((with_reducible refine gate_dst (N := 10) rfl ?_); refine ld_arr rfl 52 (.tmp 3) rfl (w.heap.size + 2) rfl (S1.out.blk 2 rfl) Try.underlying52 (m := 4) (by kernel_rfl) (num_length _) ?_)
        | ((with_reducible refine gate_dst (N := 11) rfl ?_); refine ld_arr rfl 52 (.tmp 3) rfl (w.heap.size + 2) rfl (S1.out.blk 2 rfl) Try.underlying52 (m := 4) (by kernel_rfl) (num_length _) ?_)
        | ((with_reducible refine (HPL.out _).mono ?_); rintro e w1 ⟨rfl, hb⟩; have S2 := Aside0.mk (S1.out.step hb); clear hb)
        | (refine st_arr rfl 52 (.tmp 3) (.tmp 13) rfl (w.heap.size + 2) (xs := num (2 * x)) rfl rfl (S2.out.blk 2 rfl) (m := 4) (by kernel_rfl) (num_length _) (by rw [num_length, num_length]) ?_; intro w2 h1 h2 h4 h3; have S3 := Aside0.mk (S2.out.row 2 rfl h1 h2 h3); clear h1 h2 h3 h4))
      have c0 := S3.out.cell 2 rfl 0 (by rw [num_length]; omega)
      have c1 := S3.out.cell 0 rfl j (by rw [LW.out]; omega)
      rw [Nat.add_zero] at c1
      have f0 := blk_frozen (S3.out.blk 2 rfl) 0
      have PS := Aside0.mk (fun v => (S3.out.set 2 rfl 0 v).drew)
      have r1 := getD_range (wid_ok W) j (by rw [wid_length]; omega)
      have r2 := r1.1
      clear r1
      generalize hv0 : (num (2 * x)).getD 0 0 = v0 at c0 HEV
      generalize (wid W).getD j 0 = v1 at c1 hbit r2
      go_wp2
      refine start_ (n := 13) (S := fun w' => w'.cell? ⟨w.heap.size + 1 + 1, 0, none⟩ = some (.int .u64 v0) ∧ w'.cell? ⟨w.heap.size, j, none⟩ = some (.int .u64 v1)) (ds := [12]) #[false, false, false, false, false, false, false, false, false, false, false, false, false] (by kernel_rfl) rfl rfl ⟨c0, c1⟩ (fun hHeld => ?_)
      refine pure_ (i := 0) (N := some 15) (v := ?_) (a' := ?_) #[true, false, false, false, false, false, false, false, false, false, false, false, false] rfl rfl (by kernel_rfl) (fun _ _ _ h => h) (Or.inl ⟨by rfl, ?_⟩) ?_ ?_
      rotate_left
      · intro w'; go_simp; with_reducible rfl
      rotate_left
      · simp only [Act.put, OpenRow.s1, OpenRow.s2, OpenRow.s3, i64_w, i32_w]; rfl
      refine pure_ (i := 2) (N := some 17) (v := ?_) (a' := ?_) #[true, false, true, false, false, false, false, false, false, false, false, false, false] rfl rfl (by kernel_rfl) (fun _ _ _ h => h) (Or.inl ⟨by rfl, ?_⟩) ?_ ?_
      rotate_left
      · intro w'; go_simp; with_reducible rfl
      rotate_left
      · simp only [Act.put, OpenRow.s1, OpenRow.s2, OpenRow.s3, i64_w, i32_w]; rfl
      refine pure_ (i := 3) (N := some 18) (v := ?_) (a' := ?_) #[true, false, true, true, false, false, false, false, false, false, false, false, false] rfl rfl (by kernel_rfl) (fun _ _ _ h => h) (Or.inl ⟨by rfl, ?_⟩) ?_ ?_
      rotate_left
      · intro w'; go_simp; with_reducible rfl
      rotate_left
      · simp only [Act.put, OpenRow.s1, OpenRow.s2, OpenRow.s3, i64_w, i32_w]; rfl
      refine pure_ (i := 4) (N := some 19) (v := ?_) (a' := ?_) #[true, false, true, true, true, false, false, false, false, false, false, false, false] rfl rfl (by kernel_rfl) (fun _ _ _ h => h) (Or.inl ⟨by rfl, ?_⟩) ?_ ?_
      rotate_left
      · intro w'; go_simp; with_reducible rfl
      rotate_left
      · simp only [Act.put, OpenRow.s1, OpenRow.s2, OpenRow.s3, i64_w, i32_w]; rfl
      refine pure_ (i := 6) (N := some 21) (v := ?_) (a' := ?_) #[true, false, true, true, true, false, true, false, false, false, false, false, false] rfl rfl (by kernel_rfl) (fun _ _ _ h => h) (Or.inl ⟨by rfl, ?_⟩) ?_ ?_
      rotate_left
      · intro w'; go_simp; with_reducible rfl
      rotate_left
      · simp only [Act.put, OpenRow.s1, OpenRow.s2, OpenRow.s3, i64_w, i32_w]; rfl
      refine pure_ (i := 7) (N := some 22) (v := ?_) (a' := ?_) #[true, false, true, true, true, false, true, true, false, false, false, false, false] rfl rfl (by kernel_rfl) (fun _ _ _ h => h) (Or.inl ⟨by rfl, ?_⟩) ?_ ?_
      rotate_left
      · intro w'; go_simp; with_reducible rfl
      rotate_left
      · simp only [Act.put, OpenRow.s1, OpenRow.s2, OpenRow.s3, i64_w, i32_w]; rfl
      refine take_ (i := 1) (N := some 16) (v := ?_) (a' := ?_) #[true, true, true, true, true, false, true, true, false, false, false, false, false] rfl rfl (by kernel_rfl) (fun _ _ _ h => h) (Or.inl ⟨by rfl, ?_⟩) hHeld ?_ ?_
      rotate_left
      · rintro w' ⟨s0, s1⟩
        go_simp
        with_reducible rfl
      rotate_left
      · simp only [Act.put, OpenRow.s1, OpenRow.s2, OpenRow.s3, i64_w, i32_w]; rfl
      refine take_ (i := 5) (N := some 20) (v := ?_) (a' := ?_) #[true, true, true, true, true, true, true, true, false, false, false, false, false] rfl rfl (by kernel_rfl) (fun _ _ _ h => h) (Or.inl ⟨by rfl, ?_⟩) hHeld ?_ ?_
      rotate_left
      · rintro w' ⟨s0, s1⟩
        go_simp
        with_reducible rfl
      rotate_left
      · simp only [Act.put, OpenRow.s1, OpenRow.s2, OpenRow.s3, i64_w, i32_w]; rfl
      refine pure_ (i := 8) (N := some 23) (v := ?_) (a' := ?_) #[true, true, true, true, true, true, true, true, true, false, false, false, false] rfl rfl (by kernel_rfl) (fun _ _ _ h => h) (Or.inl ⟨by rfl, ?_⟩) ?_ ?_
      rotate_left
      · intro w'; go_simp; with_reducible rfl
      rotate_left
      · simp only [Act.put, OpenRow.s1, OpenRow.s2, OpenRow.s3, i64_w, i32_w]; rfl
      refine pure_ (i := 9) (N := some 24) (v := ?_) (a' := ?_) #[true, true, true, true, true, true, true, true, true, true, false, false, false] rfl rfl (by kernel_rfl) (fun _ _ _ h => h) (Or.inl ⟨by rfl, ?_⟩) ?_ ?_
      rotate_left
      · intro w'; go_simp; with_reducible rfl
      rotate_left
      · simp only [Act.put, OpenRow.s1, OpenRow.s2, OpenRow.s3, i64_w, i32_w]; rfl
      refine pure_ (i := 10) (N := some 25) (v := ?_) (a' := ?_) #[true, true, true, true, true, true, true, true, true, true, true, false, false] rfl rfl (by kernel_rfl) (fun _ _ _ h => h) (Or.inl ⟨by rfl, ?_⟩) ?_ ?_
      rotate_left
      · intro w'; go_simp; with_reducible rfl
      rotate_left
      · simp only [Act.put, OpenRow.s1, OpenRow.s2, OpenRow.s3, i64_w, i32_w]; rfl
      refine pure_ (i := 11) (N := some 26) (v := ?_) (a' := ?_) #[true, true, true, true, true, true, true, true, true, true, true, true, false] rfl rfl (by kernel_rfl) (fun _ _ _ h => h) (Or.inl ⟨by rfl, ?_⟩) ?_ ?_
      rotate_left
      · intro w'; go_simp; with_reducible rfl
      rotate_left
      · simp only [Act.put, OpenRow.s1, OpenRow.s2, OpenRow.s3, i64_w, i32_w]; rfl
      refine last_ (i := 12) (N := none) #[true, true, true, true, true, true, true, true, true, true, true, true, true] rfl rfl (by kernel_rfl) (by decide) (fun K hK => ?_)
      refine skip_ (w1 := ?_) (by rfl) rfl ?_ ?_
      rotate_left
      · go_simp
        rfl
      refine hK.out _ _ ?_
      clear hK K
      refine done_ (by kernel_rfl) ?_
      have S4 := Aside0.mk (show St w [⟨81, .u64, wid W⟩, ⟨52, .u64, z4⟩, ⟨52, .u64, num (y)⟩] ((w2.setCell ⟨w.heap.size + 1 + 1, 0, none⟩ (.int .u64 (bits .or .u64 v0 (b : Int)))).drew) by
        have h := PS.out (bits .or .u64 v0 (b : Int))
        have h9 := HEV.out
        rw [← HY.out] at h9
        rw [← h9]
        exact h)
      generalize (w2.setCell ⟨w.heap.size + 1 + 1, 0, none⟩ (.int .u64 (bits .or .u64 v0 (b : Int)))).drew = w3 at *
      clear c0 c1 f0 PS hbit hv0 r2
      have hb4 : P64 ^ 4 = BB := by decide
      have hyB : y < BB := by have h1 := HY.out; have h2 := HXO.out; rw [orderN_eq] at h2; rw [BB_eq]; omega
      have hoB : orderN < BB := by decide
      by_cases hp : y < orderN
      · have HL : Aside0 (∀ W, Calls Try.prog 63 #[.agg (arr .u64 (num y)), .agg (arr .u64 (num orderN))] W fun e w' => e = .returned (.bool true) ∧ Below W.heap.size W w') := ⟨fun W => by
          have h := impl_number_less.calls y orderN W
          rw [hb4, Nat.mod_eq_of_lt hyB, Nat.mod_eq_of_lt hoB, decide_eq_true hp] at h
          exact h⟩
        have EY := Aside0.mk (show y = W / 2 ^ i % orderN by rw [← HRM.out, ← HY.out, Nat.mod_eq_of_lt hp])
        clear hb4 hyB hoB hp
        go_wp2
        refine start_ (n := 4) (S := fun w' => St w [⟨81, .u64, wid W⟩, ⟨52, .u64, z4⟩, ⟨52, .u64, num (y)⟩] w') (ds := []) #[false, false, false, false] (by kernel_rfl) rfl rfl (S4.out.drew) (fun hHeld => ?_)
        refine take_ (i := 0) (N := some 27) (v := ?_) (a' := ?_) #[true, false, false, false] rfl rfl (by kernel_rfl) (fun _ _ _ h => h) (Or.inl ⟨by rfl, ?_⟩) hHeld ?_ ?_
        rotate_left
        · intro w' s0
          refine (run_ld 52 (.tmp 3) (by rfl) (w.heap.size + 2) (by rfl) (s0.blk 2 rfl) Try.underlying52 (m := 4) (by kernel_rfl) (num_length _)).trans ?_; with_reducible rfl
        rotate_left
        · simp only [Act.put, OpenRow.s1, OpenRow.s2, OpenRow.s3, i64_w, i32_w]; rfl
        refine one_ (i := 1) (N := some 28) #[true, true, false, false] rfl rfl (by kernel_rfl) (by decide) (fun K hK => ?_)
        have S3 := Aside0.mk (S4.out.drew)
        refine goes_ Try.func64 (by kernel_rfl) rfl #[] (by rfl) rfl rfl (by simp only [List.map_toArray, List.map_cons, List.map_nil] <;> rfl) ?_
        with_reducible refine (impl_order.calls _).mono ?_
        rintro e w3 ⟨rfl, hb⟩
        refine ⟨_, rfl, ?_⟩
        have S4 := Aside0.mk (S3.out.step hb)
        clear hb
        refine hK.out _ _ (S4.out) (fun hHeld => ?_)
        clear hK K
        refine norm_ (a' := ?_) ?_ ?_
        rotate_left
        · show Act.put _ (some 28) _ = _
          simp only [Act.put, OpenRow.s1, OpenRow.s2, OpenRow.s3, i64_w, i32_w]
          rfl
        refine one_ (i := 2) (N := some 29) #[true, true, true, false] rfl rfl (by kernel_rfl) (by decide) (fun K hK => ?_)
        refine goes_ Try.func63 (by kernel_rfl) rfl #[.agg (arr .u64 (num y)), .agg (arr .u64 (num orderN))] (by rfl) rfl rfl (by simp only [List.map_toArray, List.map_cons, List.map_nil] <;> rfl) ?_
        with_reducible refine (HL.out _).mono ?_
        rintro e w3 ⟨rfl, hb⟩
        refine ⟨_, rfl, ?_⟩
        have S5 := Aside0.mk (S4.out.step hb)
        clear hb
        refine hK.out _ _ (S5.out) (fun hHeld => ?_)
        clear hK K
        refine norm_ (a' := ?_) ?_ ?_
        rotate_left
        · show Act.put _ (some 29) _ = _
          simp only [Act.put, OpenRow.s1, OpenRow.s2, OpenRow.s3, i64_w, i32_w]
          rfl
        refine pure_ (i := 3) (N := some 30) (v := ?_) (a' := ?_) #[true, true, true, true] rfl rfl (by kernel_rfl) (fun _ _ _ h => h) (Or.inl ⟨by rfl, ?_⟩) ?_ ?_
        rotate_left
        · intro w'; go_simp; with_reducible rfl
        rotate_left
        · simp only [Act.put, OpenRow.s1, OpenRow.s2, OpenRow.s3, i64_w, i32_w]; rfl
        refine done_ (by kernel_rfl) ?_
        go_wp2
        go_roundg i
        case measure => omega
        case rel => exact ⟨i, by omega, Nat.le_refl _, by go_num, by rw [← EY.out]; exact S5⟩
      · have HL : Aside0 (∀ W, Calls Try.prog 63 #[.agg (arr .u64 (num y)), .agg (arr .u64 (num orderN))] W fun e w' => e = .returned (.bool false) ∧ Below W.heap.size W w') := ⟨fun W => by
          have h := impl_number_less.calls y orderN W
          rw [hb4, Nat.mod_eq_of_lt hyB, Nat.mod_eq_of_lt hoB, decide_eq_false hp] at h
          exact h⟩
        obtain ⟨bw, HM⟩ : ∃ bw : Value, Aside0 (∀ W, Calls Try.prog 68 #[.agg (arr .u64 (num y)), .agg (arr .u64 (num orderN))] W fun e w' => e = .returned (.tuple #[.agg (arr .u64 (num (y - orderN))), bw]) ∧ Below W.heap.size W w') := ⟨_, ⟨fun W => by
          have h := impl_number_minus.calls y orderN W
          rw [hb4, Nat.mod_eq_of_lt hyB, Nat.mod_eq_of_lt hoB] at h
          have e1 : y + BB - orderN = (y - orderN) + BB := by omega
          have e2 : (y + BB - orderN) % BB = (y - orderN) % BB := (congrArg (· % BB) e1).trans (Nat.add_mod_right _ _)
          have e : num (y + BB - orderN) = num (y - orderN) := (num_mod (y + BB - orderN)).symm.trans ((congrArg num e2).trans (num_mod (y - orderN)))
          rw [e] at h
          exact h⟩⟩
        have EY := Aside0.mk (show y - orderN = W / 2 ^ i % orderN by
          have h1 := HY.out; have h2 := HXO.out
          rw [← HRM.out, ← HY.out, Nat.mod_eq_sub_mod (by omega), Nat.mod_eq_of_lt (by omega)])
        clear hb4 hyB hoB hp
        go_wp2
        refine start_ (n := 4) (S := fun w' => St w [⟨81, .u64, wid W⟩, ⟨52, .u64, z4⟩, ⟨52, .u64, num (y)⟩] w') (ds := []) #[false, false, false, false] (by kernel_rfl) rfl rfl (S4.out.drew) (fun hHeld => ?_)
        refine take_ (i := 0) (N := some 27) (v := ?_) (a' := ?_) #[true, false, false, false] rfl rfl (by kernel_rfl) (fun _ _ _ h => h) (Or.inl ⟨by rfl, ?_⟩) hHeld ?_ ?_
        rotate_left
        · intro w' s0
          refine (run_ld 52 (.tmp 3) (by rfl) (w.heap.size + 2) (by rfl) (s0.blk 2 rfl) Try.underlying52 (m := 4) (by kernel_rfl) (num_length _)).trans ?_; with_reducible rfl
        rotate_left
        · simp only [Act.put, OpenRow.s1, OpenRow.s2, OpenRow.s3, i64_w, i32_w]; rfl
        refine one_ (i := 1) (N := some 28) #[true, true, false, false] rfl rfl (by kernel_rfl) (by decide) (fun K hK => ?_)
        have S3 := Aside0.mk (S4.out.drew)
        refine goes_ Try.func64 (by kernel_rfl) rfl #[] (by rfl) rfl rfl (by simp only [List.map_toArray, List.map_cons, List.map_nil] <;> rfl) ?_
        with_reducible refine (impl_order.calls _).mono ?_
        rintro e w3 ⟨rfl, hb⟩
        refine ⟨_, rfl, ?_⟩
        have S4 := Aside0.mk (S3.out.step hb)
        clear hb
        refine hK.out _ _ (S4.out) (fun hHeld => ?_)
        clear hK K
        refine norm_ (a' := ?_) ?_ ?_
        rotate_left
        · show Act.put _ (some 28) _ = _
          simp only [Act.put, OpenRow.s1, OpenRow.s2, OpenRow.s3, i64_w, i32_w]
          rfl
        refine one_ (i := 2) (N := some 29) #[true, true, true, false] rfl rfl (by kernel_rfl) (by decide) (fun K hK => ?_)
        refine goes_ Try.func63 (by kernel_rfl) rfl #[.agg (arr .u64 (num y)), .agg (arr .u64 (num orderN))] (by rfl) rfl rfl (by simp only [List.map_toArray, List.map_cons, List.map_nil] <;> rfl) ?_
        with_reducible refine (HL.out _).mono ?_
        rintro e w3 ⟨rfl, hb⟩
        refine ⟨_, rfl, ?_⟩
        have S5 := Aside0.mk (S4.out.step hb)
        clear hb
        refine hK.out _ _ (S5.out) (fun hHeld => ?_)
        clear hK K
        refine norm_ (a' := ?_) ?_ ?_
        rotate_left
        · show Act.put _ (some 29) _ = _
          simp only [Act.put, OpenRow.s1, OpenRow.s2, OpenRow.s3, i64_w, i32_w]
          rfl
        refine pure_ (i := 3) (N := some 30) (v := ?_) (a' := ?_) #[true, true, true, true] rfl rfl (by kernel_rfl) (fun _ _ _ h => h) (Or.inl ⟨by rfl, ?_⟩) ?_ ?_
        rotate_left
        · intro w'; go_simp; with_reducible rfl
        rotate_left
        · simp only [Act.put, OpenRow.s1, OpenRow.s2, OpenRow.s3, i64_w, i32_w]; rfl
        refine done_ (by kernel_rfl) ?_
        go_wp2
        refine start_ (n := 7) (S := fun w' => St w [⟨81, .u64, wid W⟩, ⟨52, .u64, z4⟩, ⟨52, .u64, num (y)⟩] w') (ds := [6]) #[false, false, false, false, false, false, false] (by kernel_rfl) rfl rfl (S5.out.drew) (fun hHeld => ?_)
        refine take_ (i := 0) (N := some 32) (v := ?_) (a' := ?_) #[true, false, false, false, false, false, false] rfl rfl (by kernel_rfl) (fun _ _ _ h => h) (Or.inl ⟨by rfl, ?_⟩) hHeld ?_ ?_
        rotate_left
        · intro w' s0
          refine (run_ld 52 (.tmp 3) (by rfl) (w.heap.size + 2) (by rfl) (s0.blk 2 rfl) Try.underlying52 (m := 4) (by kernel_rfl) (num_length _)).trans ?_; with_reducible rfl
        rotate_left
        · simp only [Act.put, OpenRow.s1, OpenRow.s2, OpenRow.s3, i64_w, i32_w]; rfl
        refine one_ (i := 1) (N := some 33) #[true, true, false, false, false, false, false] rfl rfl (by kernel_rfl) (by decide) (fun K hK => ?_)
        have S6 := Aside0.mk (S5.out.drew)
        refine goes_ Try.func64 (by kernel_rfl) rfl #[] (by rfl) rfl rfl (by simp only [List.map_toArray, List.map_cons, List.map_nil] <;> rfl) ?_
        with_reducible refine (impl_order.calls _).mono ?_
        rintro e w3 ⟨rfl, hb⟩
        refine ⟨_, rfl, ?_⟩
        have S7 := Aside0.mk (S6.out.step hb)
        clear hb
        refine hK.out _ _ (S7.out) (fun hHeld => ?_)
        clear hK K
        refine norm_ (a' := ?_) ?_ ?_
        rotate_left
        · show Act.put _ (some 33) _ = _
          simp only [Act.put, OpenRow.s1, OpenRow.s2, OpenRow.s3, i64_w, i32_w]
          rfl
        refine one_ (i := 2) (N := some 34) #[true, true, true, false, false, false, false] rfl rfl (by kernel_rfl) (by decide) (fun K hK => ?_)
        refine goes_ Try.func68 (by kernel_rfl) rfl #[.agg (arr .u64 (num y)), .agg (arr .u64 (num orderN))] (by rfl) rfl rfl (by simp only [List.map_toArray, List.map_cons, List.map_nil] <;> rfl) ?_
        with_reducible refine (HM.out _).mono ?_
        rintro e w3 ⟨rfl, hb⟩
        refine ⟨_, rfl, ?_⟩
        have S8 := Aside0.mk (S7.out.step hb)
        clear hb
        refine hK.out _ _ (S8.out) (fun hHeld => ?_)
        clear hK K
        refine norm_ (a' := ?_) ?_ ?_
        rotate_left
        · show Act.put _ (some 34) _ = _
          simp only [Act.put, OpenRow.s1, OpenRow.s2, OpenRow.s3, i64_w, i32_w]
          rfl
        refine pure_ (i := 3) (N := some 31) (v := ?_) (a' := ?_) #[true, true, true, true, false, false, false] rfl rfl (by kernel_rfl) (fun _ _ _ h => h) (Or.inl ⟨by rfl, ?_⟩) ?_ ?_
        rotate_left
        · intro w'; go_simp; with_reducible rfl
        rotate_left
        · simp only [Act.put, OpenRow.s1, OpenRow.s2, OpenRow.s3, i64_w, i32_w]; rfl
        refine pure_ (i := 4) (N := some 35) (v := ?_) (a' := ?_) #[true, true, true, true, true, false, false] rfl rfl (by kernel_rfl) (fun _ _ _ h => h) (Or.inl ⟨by rfl, ?_⟩) ?_ ?_
        rotate_left
        · intro w'; go_simp; with_reducible rfl
        rotate_left
        · simp only [Act.put, OpenRow.s1, OpenRow.s2, OpenRow.s3, i64_w, i32_w]; rfl
        refine pure_ (i := 5) (N := some 36) (v := ?_) (a' := ?_) #[true, true, true, true, true, true, false] rfl rfl (by kernel_rfl) (fun _ _ _ h => h) (Or.inl ⟨by rfl, ?_⟩) ?_ ?_
        rotate_left
        · intro w'; go_simp; with_reducible rfl
        rotate_left
        · simp only [Act.put, OpenRow.s1, OpenRow.s2, OpenRow.s3, i64_w, i32_w]; rfl
        refine last_ (i := 6) (N := none) #[true, true, true, true, true, true, true] rfl rfl (by kernel_rfl) (by decide) (fun K hK => ?_)
        refine st_step (by rfl) rfl 52 (.tmp 3) (.tmp 35) rfl (w.heap.size + 2) rfl rfl (S8.out.blk 2 rfl) (m := 4) (by kernel_rfl) (num_length _) (by rw [num_length, num_length]) ?_
        intro w6 h1 h2 h3 h4
        have S9 := Aside0.mk (S8.out.row 2 rfl h1 h2 h3)
        clear h1 h2 h3 h4
        refine hK.out _ _ ?_
        clear hK K
        refine done_ (by kernel_rfl) ?_
        go_wp2
        go_roundg i
        case measure => omega
        case rel => exact ⟨i, by omega, Nat.le_refl _, by go_num, by rw [← EY.out]; exact S9⟩
set_option maxHeartbeats 4000000 in
set_option maxRecDepth 100000 in
theorem impl_mulAdd.calls (a b c : Nat) (w : World) (ha : a < BB) (hb : b < BB) (hc : c < orderN) :
    Calls Try.prog 26 #[.agg (arr .u64 (num a)), .agg (arr .u64 (num b)), .agg (arr .u64 (num c))] w fun e w' => e = .returned (.agg (arr .u64 (num ((a * b + c) % orderN)))) ∧ Below w.heap.size w w' := by
  have HT := Aside0.mk (fun W => impl_number_times.calls a b W ha hb)
  have HS := Aside0.mk (fun W => impl_wide_scalar.calls (a * b) W (Nat.lt_of_lt_of_le (Nat.mul_lt_mul'' ha hb) (by decide)))
  have hO : orderN < P64 ^ 4 := by decide
  have h2O : orderN + orderN < P64 ^ 4 := by decide
  obtain ⟨r, hr⟩ : ∃ r, r = a * b % orderN := ⟨_, rfl⟩
  have hrl : r < orderN := by rw [hr]; exact Nat.mod_lt _ (by decide)
  obtain ⟨s, hs⟩ : ∃ s, s = r + c := ⟨_, rfl⟩
  have hsm : (a * b + c) % orderN = if s < orderN then s else s - orderN := by
    rw [Nat.add_mod, ← hr, Nat.mod_eq_of_lt hc, ← hs]
    split
    · rename_i h; exact Nat.mod_eq_of_lt h
    · rename_i h; rw [Nat.mod_eq_sub_mod (by omega), Nat.mod_eq_of_lt (by omega)]
  obtain ⟨cv, HP⟩ : ∃ cv : Value, Aside0 (∀ W, Calls Try.prog 67 #[.agg (arr .u64 (num r)), .agg (arr .u64 (num c))] W fun e w' => e = .returned (.tuple #[.agg (arr .u64 (num s)), cv]) ∧ Below W.heap.size W w') := ⟨_, ⟨fun W => by rw [hs]; exact impl_number_plus.calls r c W⟩⟩
  have HO := Aside0.mk (fun W => impl_order.calls W)
  have HL := Aside0.mk (fun W => impl_number_less.calls s orderN W)
  rw [Nat.mod_eq_of_lt hO, Nat.mod_eq_of_lt (show s < P64 ^ 4 by omega)] at HL
  obtain ⟨z, hz⟩ : ∃ z, z = (if s < orderN then s else s - orderN) := ⟨_, rfl⟩
  rw [hsm, ← hz]
  have HZ := Aside0.mk hz
  clear hz
  rw [← hr] at HS
  have hsB : s % P64 ^ 4 = s := Nat.mod_eq_of_lt (by omega)
  have hoB : orderN % P64 ^ 4 = orderN := Nat.mod_eq_of_lt hO
  clear hsm ha hb hc hr hrl hs hO h2O
  obtain ⟨p, hp⟩ : ∃ p, p = a * b := ⟨_, rfl⟩
  rw [← hp] at HT HS
  clear hp
  have S := Aside0.mk (((((St.start w).push rfl 52 .u64 (num a)).push (World.size_alloc ..) 52 .u64 (num b)).push (by rw [World.size_alloc, World.size_alloc]; rfl) 52 .u64 (num c)).push (by rw [World.size_alloc, World.size_alloc, World.size_alloc]; rfl) 52 .u64 z4)
  go_enter Try.func26, Try.ntmps26
  go_wp2
  refine abs_world (bs := [⟨52, .u64, num a⟩, ⟨52, .u64, num b⟩, ⟨52, .u64, num c⟩, ⟨52, .u64, z4⟩]) S.out ?_
  clear S
  intro W0 hS
  have U := Aside0.mk hS.drew
  clear hS
  refine start_ (n := 12) (S := fun w' => St w [⟨52, .u64, num a⟩, ⟨52, .u64, num b⟩, ⟨52, .u64, num c⟩, ⟨52, .u64, z4⟩] w') (ds := []) #[false, false, false, false, false, false, false, false, false, false, false, false] (by kernel_rfl) rfl rfl (U.out) (fun hHeld => ?_)
  refine take_ (i := 0) (N := some 10) (v := ?_) (a' := ?_) #[true, false, false, false, false, false, false, false, false, false, false, false] rfl rfl (by kernel_rfl) (fun _ _ _ h => h) (Or.inl ⟨by rfl, ?_⟩) hHeld ?_ ?_
  rotate_left
  · intro w' s0
    refine (run_ld 52 (.tmp 3) (by rfl) w.heap.size (by rfl) (s0.blk 0 rfl) Try.underlying52 (m := 4) (by kernel_rfl) (num_length _)).trans ?_; with_reducible rfl
  rotate_left
  · simp only [Act.put, OpenRow.s1, OpenRow.s2, OpenRow.s3, i64_w, i32_w]; rfl
  refine take_ (i := 1) (N := some 11) (v := ?_) (a' := ?_) #[true, true, false, false, false, false, false, false, false, false, false, false] rfl rfl (by kernel_rfl) (fun _ _ _ h => h) (Or.inl ⟨by rfl, ?_⟩) hHeld ?_ ?_
  rotate_left
  · intro w' s0
    refine (run_ld 52 (.tmp 4) (by rfl) (w.heap.size + 1) (by rfl) (s0.blk 1 rfl) Try.underlying52 (m := 4) (by kernel_rfl) (num_length _)).trans ?_; with_reducible rfl
  rotate_left
  · simp only [Act.put, OpenRow.s1, OpenRow.s2, OpenRow.s3, i64_w, i32_w]; rfl
  refine take_ (i := 4) (N := some 14) (v := ?_) (a' := ?_) #[true, true, false, false, true, false, false, false, false, false, false, false] rfl rfl (by kernel_rfl) (fun _ _ _ h => h) (Or.inl ⟨by rfl, ?_⟩) hHeld ?_ ?_
  rotate_left
  · intro w' s0
    refine (run_ld 52 (.tmp 5) (by rfl) (w.heap.size + 1 + 1) (by rfl) (s0.blk 2 rfl) Try.underlying52 (m := 4) (by kernel_rfl) (num_length _)).trans ?_; with_reducible rfl
  rotate_left
  · simp only [Act.put, OpenRow.s1, OpenRow.s2, OpenRow.s3, i64_w, i32_w]; rfl
  refine join_ (σ := Nat) 2 #[true, true, true, true, true, true, true, true, true, true, false, false] (fun s_ => [(12, .agg (arr .u64 (wid p))), (13, .agg (arr .u64 (num r))), (15, .tuple #[.agg (arr .u64 (num s)), cv]), (9, .tuple #[.agg (arr .u64 (num s)), cv]), (16, .agg (arr .u64 (num s))), (17, cv), (7, .pointer (some ⟨s_, 0, none⟩))]) (fun s_ w' => (St w [⟨52, .u64, num a⟩, ⟨52, .u64, num b⟩, ⟨52, .u64, num c⟩, ⟨52, .u64, z4⟩] w') ∧ w'.heap[s_]? = some (.cells (arr .u64 z4) 52 (0, 0)) ∧ w.heap.size + 4 ≤ s_) ?_ ?_
  rotate_left
  · intro hCont
    refine two_ (i := 2) (j := 9) (Ni := some 12) (Nj := some 7) #[true, true, true, false, true, false, false, false, false, false, false, false] #[true, true, false, false, true, false, false, false, false, true, false, false] rfl rfl rfl rfl (by kernel_rfl) (by decide) (by decide) (fun K hK => ?_) (fun K hK => ?_)
    · skip
      refine goes_ Try.func65 (by kernel_rfl) rfl #[.agg (arr .u64 (num a)), .agg (arr .u64 (num b))] (by rfl) rfl rfl (by simp only [List.map_toArray, List.map_cons, List.map_nil] <;> rfl) ?_
      with_reducible refine (HT.out _).mono ?_
      rintro e w3 ⟨rfl, hb⟩
      refine ⟨_, rfl, ?_⟩
      have U_2 := Aside0.mk (U.out.step hb)
      clear hb
      refine hK.out _ _ (U_2.out) (fun hHeld => ?_)
      clear hK K
      refine norm_ (a' := ?_) ?_ ?_
      rotate_left
      · show Act.put _ (some 12) _ = _
        simp only [Act.put, OpenRow.s1, OpenRow.s2, OpenRow.s3, i64_w, i32_w]
        rfl
      refine two_ (i := 3) (j := 9) (Ni := some 13) (Nj := some 7) #[true, true, true, true, true, false, false, false, false, false, false, false] #[true, true, true, false, true, false, false, false, false, true, false, false] rfl rfl rfl rfl (by kernel_rfl) (by decide) (by decide) (fun K hK => ?_) (fun K hK => ?_)
      · skip
        refine goes_ Try.func66 (by kernel_rfl) rfl #[.agg (arr .u64 (wid p))] (by rfl) rfl rfl (by simp only [List.map_toArray, List.map_cons, List.map_nil] <;> rfl) ?_
        with_reducible refine (HS.out _).mono ?_
        rintro e w3 ⟨rfl, hb⟩
        refine ⟨_, rfl, ?_⟩
        have U_2_3 := Aside0.mk (U_2.out.step hb)
        clear hb
        refine hK.out _ _ (U_2_3.out) (fun hHeld => ?_)
        clear hK K
        refine norm_ (a' := ?_) ?_ ?_
        rotate_left
        · show Act.put _ (some 13) _ = _
          simp only [Act.put, OpenRow.s1, OpenRow.s2, OpenRow.s3, i64_w, i32_w]
          rfl
        refine two_ (i := 5) (j := 9) (Ni := some 15) (Nj := some 7) #[true, true, true, true, true, true, false, false, false, false, false, false] #[true, true, true, true, true, false, false, false, false, true, false, false] rfl rfl rfl rfl (by kernel_rfl) (by decide) (by decide) (fun K hK => ?_) (fun K hK => ?_)
        · skip
          refine goes_ Try.func67 (by kernel_rfl) rfl #[.agg (arr .u64 (num r)), .agg (arr .u64 (num c))] (by rfl) rfl rfl (by simp only [List.map_toArray, List.map_cons, List.map_nil] <;> rfl) ?_
          with_reducible refine (HP.out _).mono ?_
          rintro e w3 ⟨rfl, hb⟩
          refine ⟨_, rfl, ?_⟩
          have U_2_3_5 := Aside0.mk (U_2_3.out.step hb)
          clear hb
          refine hK.out _ _ (U_2_3_5.out) (fun hHeld => ?_)
          clear hK K
          refine norm_ (a' := ?_) ?_ ?_
          rotate_left
          · show Act.put _ (some 15) _ = _
            simp only [Act.put, OpenRow.s1, OpenRow.s2, OpenRow.s3, i64_w, i32_w]
            rfl
          refine pure_ (i := 6) (N := some 9) (v := ?_) (a' := ?_) #[true, true, true, true, true, true, true, false, false, false, false, false] rfl rfl (by kernel_rfl) (fun _ _ _ h => h) (Or.inl ⟨by rfl, ?_⟩) ?_ ?_
          rotate_left
          · intro w'; go_simp; with_reducible rfl
          rotate_left
          · simp only [Act.put, OpenRow.s1, OpenRow.s2, OpenRow.s3, i64_w, i32_w]; rfl
          refine pure_ (i := 7) (N := some 16) (v := ?_) (a' := ?_) #[true, true, true, true, true, true, true, true, false, false, false, false] rfl rfl (by kernel_rfl) (fun _ _ _ h => h) (Or.inl ⟨by rfl, ?_⟩) ?_ ?_
          rotate_left
          · intro w'; go_simp; with_reducible rfl
          rotate_left
          · simp only [Act.put, OpenRow.s1, OpenRow.s2, OpenRow.s3, i64_w, i32_w]; rfl
          refine pure_ (i := 8) (N := some 17) (v := ?_) (a' := ?_) #[true, true, true, true, true, true, true, true, true, false, false, false] rfl rfl (by kernel_rfl) (fun _ _ _ h => h) (Or.inl ⟨by rfl, ?_⟩) ?_ ?_
          rotate_left
          · intro w'; go_simp; with_reducible rfl
          rotate_left
          · simp only [Act.put, OpenRow.s1, OpenRow.s2, OpenRow.s3, i64_w, i32_w]; rfl
          refine one_ (i := 9) (N := some 7) #[true, true, true, true, true, true, true, true, true, true, false, false] rfl rfl (by kernel_rfl) (by decide) (fun K hK => ?_)
          refine value_ (w1 := ?_) (v := ?_) (by rfl) rfl ?_ ?_
          rotate_left 2
          · go_simp
            constructor
            · rfl
            · rfl
          have U_2_3_5_9 := Aside0.mk (U_2_3_5.out.alloc (.cells (arr .u64 z4) 52))
          have G9_2_3_5_9 := Aside0.mk (U_2_3_5.out.new (.cells (arr .u64 z4) 52))
          have E9 := Aside0.mk U_2_3_5.out.size
          refine hK.out _ _ (U_2_3_5_9.out) (fun hHeld => ?_)
          clear hK K
          refine norm_ (a' := ?_) ?_ ?_
          rotate_left
          · show Act.put _ (some 7) _ = _
            simp only [Act.put, OpenRow.s1, OpenRow.s2, OpenRow.s3, i64_w, i32_w]
            rfl
          exact norm_ (by simp only [putAll, Act.put, List.setIfInBounds_toArray, List.set_cons_zero, List.set_cons_succ] <;> rfl) (hCont _ _ ⟨U_2_3_5_9.out, G9_2_3_5_9.out, E9.out⟩)
        · skip
          refine value_ (w1 := ?_) (v := ?_) (by rfl) rfl ?_ ?_
          rotate_left 2
          · go_simp
            constructor
            · rfl
            · rfl
          have U_2_3_9 := Aside0.mk (U_2_3.out.alloc (.cells (arr .u64 z4) 52))
          have G9_2_3_9 := Aside0.mk (U_2_3.out.new (.cells (arr .u64 z4) 52))
          have E9 := Aside0.mk U_2_3.out.size
          refine hK.out _ _ (U_2_3_9.out) (fun hHeld => ?_)
          clear hK K
          refine norm_ (a' := ?_) ?_ ?_
          rotate_left
          · show Act.put _ (some 7) _ = _
            simp only [Act.put, OpenRow.s1, OpenRow.s2, OpenRow.s3, i64_w, i32_w]
            rfl
          refine one_ (i := 5) (N := some 15) #[true, true, true, true, true, true, false, false, false, true, false, false] rfl rfl (by kernel_rfl) (by decide) (fun K hK => ?_)
          refine goes_ Try.func67 (by kernel_rfl) rfl #[.agg (arr .u64 (num r)), .agg (arr .u64 (num c))] (by rfl) rfl rfl (by simp only [List.map_toArray, List.map_cons, List.map_nil] <;> rfl) ?_
          with_reducible refine (HP.out _).mono ?_
          rintro e w3 ⟨rfl, hb⟩
          refine ⟨_, rfl, ?_⟩
          have U_2_3_9_5 := Aside0.mk (U_2_3_9.out.step hb)
          have G9_2_3_9_5 := Aside0.mk (blk_below G9_2_3_9.out hb)
          clear hb
          refine hK.out _ _ (U_2_3_9_5.out) (fun hHeld => ?_)
          clear hK K
          refine norm_ (a' := ?_) ?_ ?_
          rotate_left
          · show Act.put _ (some 15) _ = _
            simp only [Act.put, OpenRow.s1, OpenRow.s2, OpenRow.s3, i64_w, i32_w]
            rfl
          refine pure_ (i := 6) (N := some 9) (v := ?_) (a' := ?_) #[true, true, true, true, true, true, true, false, false, true, false, false] rfl rfl (by kernel_rfl) (fun _ _ _ h => h) (Or.inl ⟨by rfl, ?_⟩) ?_ ?_
          rotate_left
          · intro w'; go_simp; with_reducible rfl
          rotate_left
          · simp only [Act.put, OpenRow.s1, OpenRow.s2, OpenRow.s3, i64_w, i32_w]; rfl
          refine pure_ (i := 7) (N := some 16) (v := ?_) (a' := ?_) #[true, true, true, true, true, true, true, true, false, true, false, false] rfl rfl (by kernel_rfl) (fun _ _ _ h => h) (Or.inl ⟨by rfl, ?_⟩) ?_ ?_
          rotate_left
          · intro w'; go_simp; with_reducible rfl
          rotate_left
          · simp only [Act.put, OpenRow.s1, OpenRow.s2, OpenRow.s3, i64_w, i32_w]; rfl
          refine pure_ (i := 8) (N := some 17) (v := ?_) (a' := ?_) #[true, true, true, true, true, true, true, true, true, true, false, false] rfl rfl (by kernel_rfl) (fun _ _ _ h => h) (Or.inl ⟨by rfl, ?_⟩) ?_ ?_
          rotate_left
          · intro w'; go_simp; with_reducible rfl
          rotate_left
          · simp only [Act.put, OpenRow.s1, OpenRow.s2, OpenRow.s3, i64_w, i32_w]; rfl
          exact norm_ (by simp only [putAll, Act.put, List.setIfInBounds_toArray, List.set_cons_zero, List.set_cons_succ] <;> rfl) (hCont _ _ ⟨U_2_3_9_5.out, G9_2_3_9_5.out, E9.out⟩)
      · skip
        refine value_ (w1 := ?_) (v := ?_) (by rfl) rfl ?_ ?_
        rotate_left 2
        · go_simp
          constructor
          · rfl
          · rfl
        have U_2_9 := Aside0.mk (U_2.out.alloc (.cells (arr .u64 z4) 52))
        have G9_2_9 := Aside0.mk (U_2.out.new (.cells (arr .u64 z4) 52))
        have E9 := Aside0.mk U_2.out.size
        refine hK.out _ _ (U_2_9.out) (fun hHeld => ?_)
        clear hK K
        refine norm_ (a' := ?_) ?_ ?_
        rotate_left
        · show Act.put _ (some 7) _ = _
          simp only [Act.put, OpenRow.s1, OpenRow.s2, OpenRow.s3, i64_w, i32_w]
          rfl
        refine one_ (i := 3) (N := some 13) #[true, true, true, true, true, false, false, false, false, true, false, false] rfl rfl (by kernel_rfl) (by decide) (fun K hK => ?_)
        refine goes_ Try.func66 (by kernel_rfl) rfl #[.agg (arr .u64 (wid p))] (by rfl) rfl rfl (by simp only [List.map_toArray, List.map_cons, List.map_nil] <;> rfl) ?_
        with_reducible refine (HS.out _).mono ?_
        rintro e w3 ⟨rfl, hb⟩
        refine ⟨_, rfl, ?_⟩
        have U_2_9_3 := Aside0.mk (U_2_9.out.step hb)
        have G9_2_9_3 := Aside0.mk (blk_below G9_2_9.out hb)
        clear hb
        refine hK.out _ _ (U_2_9_3.out) (fun hHeld => ?_)
        clear hK K
        refine norm_ (a' := ?_) ?_ ?_
        rotate_left
        · show Act.put _ (some 13) _ = _
          simp only [Act.put, OpenRow.s1, OpenRow.s2, OpenRow.s3, i64_w, i32_w]
          rfl
        refine one_ (i := 5) (N := some 15) #[true, true, true, true, true, true, false, false, false, true, false, false] rfl rfl (by kernel_rfl) (by decide) (fun K hK => ?_)
        refine goes_ Try.func67 (by kernel_rfl) rfl #[.agg (arr .u64 (num r)), .agg (arr .u64 (num c))] (by rfl) rfl rfl (by simp only [List.map_toArray, List.map_cons, List.map_nil] <;> rfl) ?_
        with_reducible refine (HP.out _).mono ?_
        rintro e w3 ⟨rfl, hb⟩
        refine ⟨_, rfl, ?_⟩
        have U_2_9_3_5 := Aside0.mk (U_2_9_3.out.step hb)
        have G9_2_9_3_5 := Aside0.mk (blk_below G9_2_9_3.out hb)
        clear hb
        refine hK.out _ _ (U_2_9_3_5.out) (fun hHeld => ?_)
        clear hK K
        refine norm_ (a' := ?_) ?_ ?_
        rotate_left
        · show Act.put _ (some 15) _ = _
          simp only [Act.put, OpenRow.s1, OpenRow.s2, OpenRow.s3, i64_w, i32_w]
          rfl
        refine pure_ (i := 6) (N := some 9) (v := ?_) (a' := ?_) #[true, true, true, true, true, true, true, false, false, true, false, false] rfl rfl (by kernel_rfl) (fun _ _ _ h => h) (Or.inl ⟨by rfl, ?_⟩) ?_ ?_
        rotate_left
        · intro w'; go_simp; with_reducible rfl
        rotate_left
        · simp only [Act.put, OpenRow.s1, OpenRow.s2, OpenRow.s3, i64_w, i32_w]; rfl
        refine pure_ (i := 7) (N := some 16) (v := ?_) (a' := ?_) #[true, true, true, true, true, true, true, true, false, true, false, false] rfl rfl (by kernel_rfl) (fun _ _ _ h => h) (Or.inl ⟨by rfl, ?_⟩) ?_ ?_
        rotate_left
        · intro w'; go_simp; with_reducible rfl
        rotate_left
        · simp only [Act.put, OpenRow.s1, OpenRow.s2, OpenRow.s3, i64_w, i32_w]; rfl
        refine pure_ (i := 8) (N := some 17) (v := ?_) (a' := ?_) #[true, true, true, true, true, true, true, true, true, true, false, false] rfl rfl (by kernel_rfl) (fun _ _ _ h => h) (Or.inl ⟨by rfl, ?_⟩) ?_ ?_
        rotate_left
        · intro w'; go_simp; with_reducible rfl
        rotate_left
        · simp only [Act.put, OpenRow.s1, OpenRow.s2, OpenRow.s3, i64_w, i32_w]; rfl
        exact norm_ (by simp only [putAll, Act.put, List.setIfInBounds_toArray, List.set_cons_zero, List.set_cons_succ] <;> rfl) (hCont _ _ ⟨U_2_9_3_5.out, G9_2_9_3_5.out, E9.out⟩)
    · skip
      refine value_ (w1 := ?_) (v := ?_) (by rfl) rfl ?_ ?_
      rotate_left 2
      · go_simp
        constructor
        · rfl
        · rfl
      have U_9 := Aside0.mk (U.out.alloc (.cells (arr .u64 z4) 52))
      have G9_9 := Aside0.mk (U.out.new (.cells (arr .u64 z4) 52))
      have E9 := Aside0.mk U.out.size
      refine hK.out _ _ (U_9.out) (fun hHeld => ?_)
      clear hK K
      refine norm_ (a' := ?_) ?_ ?_
      rotate_left
      · show Act.put _ (some 7) _ = _
        simp only [Act.put, OpenRow.s1, OpenRow.s2, OpenRow.s3, i64_w, i32_w]
        rfl
      refine one_ (i := 2) (N := some 12) #[true, true, true, false, true, false, false, false, false, true, false, false] rfl rfl (by kernel_rfl) (by decide) (fun K hK => ?_)
      refine goes_ Try.func65 (by kernel_rfl) rfl #[.agg (arr .u64 (num a)), .agg (arr .u64 (num b))] (by rfl) rfl rfl (by simp only [List.map_toArray, List.map_cons, List.map_nil] <;> rfl) ?_
      with_reducible refine (HT.out _).mono ?_
      rintro e w3 ⟨rfl, hb⟩
      refine ⟨_, rfl, ?_⟩
      have U_9_2 := Aside0.mk (U_9.out.step hb)
      have G9_9_2 := Aside0.mk (blk_below G9_9.out hb)
      clear hb
      refine hK.out _ _ (U_9_2.out) (fun hHeld => ?_)
      clear hK K
      refine norm_ (a' := ?_) ?_ ?_
      rotate_left
      · show Act.put _ (some 12) _ = _
        simp only [Act.put, OpenRow.s1, OpenRow.s2, OpenRow.s3, i64_w, i32_w]
        rfl
      refine one_ (i := 3) (N := some 13) #[true, true, true, true, true, false, false, false, false, true, false, false] rfl rfl (by kernel_rfl) (by decide) (fun K hK => ?_)
      refine goes_ Try.func66 (by kernel_rfl) rfl #[.agg (arr .u64 (wid p))] (by rfl) rfl rfl (by simp only [List.map_toArray, List.map_cons, List.map_nil] <;> rfl) ?_
      with_reducible refine (HS.out _).mono ?_
      rintro e w3 ⟨rfl, hb⟩
      refine ⟨_, rfl, ?_⟩
      have U_9_2_3 := Aside0.mk (U_9_2.out.step hb)
      have G9_9_2_3 := Aside0.mk (blk_below G9_9_2.out hb)
      clear hb
      refine hK.out _ _ (U_9_2_3.out) (fun hHeld => ?_)
      clear hK K
      refine norm_ (a' := ?_) ?_ ?_
      rotate_left
      · show Act.put _ (some 13) _ = _
        simp only [Act.put, OpenRow.s1, OpenRow.s2, OpenRow.s3, i64_w, i32_w]
        rfl
      refine one_ (i := 5) (N := some 15) #[true, true, true, true, true, true, false, false, false, true, false, false] rfl rfl (by kernel_rfl) (by decide) (fun K hK => ?_)
      refine goes_ Try.func67 (by kernel_rfl) rfl #[.agg (arr .u64 (num r)), .agg (arr .u64 (num c))] (by rfl) rfl rfl (by simp only [List.map_toArray, List.map_cons, List.map_nil] <;> rfl) ?_
      with_reducible refine (HP.out _).mono ?_
      rintro e w3 ⟨rfl, hb⟩
      refine ⟨_, rfl, ?_⟩
      have U_9_2_3_5 := Aside0.mk (U_9_2_3.out.step hb)
      have G9_9_2_3_5 := Aside0.mk (blk_below G9_9_2_3.out hb)
      clear hb
      refine hK.out _ _ (U_9_2_3_5.out) (fun hHeld => ?_)
      clear hK K
      refine norm_ (a' := ?_) ?_ ?_
      rotate_left
      · show Act.put _ (some 15) _ = _
        simp only [Act.put, OpenRow.s1, OpenRow.s2, OpenRow.s3, i64_w, i32_w]
        rfl
      refine pure_ (i := 6) (N := some 9) (v := ?_) (a' := ?_) #[true, true, true, true, true, true, true, false, false, true, false, false] rfl rfl (by kernel_rfl) (fun _ _ _ h => h) (Or.inl ⟨by rfl, ?_⟩) ?_ ?_
      rotate_left
      · intro w'; go_simp; with_reducible rfl
      rotate_left
      · simp only [Act.put, OpenRow.s1, OpenRow.s2, OpenRow.s3, i64_w, i32_w]; rfl
      refine pure_ (i := 7) (N := some 16) (v := ?_) (a' := ?_) #[true, true, true, true, true, true, true, true, false, true, false, false] rfl rfl (by kernel_rfl) (fun _ _ _ h => h) (Or.inl ⟨by rfl, ?_⟩) ?_ ?_
      rotate_left
      · intro w'; go_simp; with_reducible rfl
      rotate_left
      · simp only [Act.put, OpenRow.s1, OpenRow.s2, OpenRow.s3, i64_w, i32_w]; rfl
      refine pure_ (i := 8) (N := some 17) (v := ?_) (a' := ?_) #[true, true, true, true, true, true, true, true, true, true, false, false] rfl rfl (by kernel_rfl) (fun _ _ _ h => h) (Or.inl ⟨by rfl, ?_⟩) ?_ ?_
      rotate_left
      · intro w'; go_simp; with_reducible rfl
      rotate_left
      · simp only [Act.put, OpenRow.s1, OpenRow.s2, OpenRow.s3, i64_w, i32_w]; rfl
      exact norm_ (by simp only [putAll, Act.put, List.setIfInBounds_toArray, List.set_cons_zero, List.set_cons_succ] <;> rfl) (hCont _ _ ⟨U_9_2_3_5.out, G9_9_2_3_5.out, E9.out⟩)
  rintro g9_ w9 ⟨hS0, hG9, hE9⟩
  have T9 := Aside0.mk hS0
  have GG9 := Aside0.mk hG9
  have EE9 := Aside0.mk hE9
  have hHeld := hS0
  clear hG9 hE9
  refine norm_ (a' := ?_) ?_ ?_
  rotate_left
  · simp only [putAll, Act.put, List.setIfInBounds_toArray, List.set_cons_zero, List.set_cons_succ]
    rfl
  refine one_ (i := 10) (N := none) #[true, true, true, true, true, true, true, true, true, true, true, false] rfl rfl (by kernel_rfl) (by decide) (fun K hK => ?_)
  refine st_step (by rfl) rfl 52 (.tmp 7) (.tmp 16) rfl g9_ rfl rfl GG9.out (m := 4) (by kernel_rfl) (num_length _) (by rw [num_length]; rfl) ?_
  intro w6 h1 h2 h3 h4
  have GA := Aside0.mk h1
  have V := Aside0.mk (St.other T9.out h2 h3 EE9.out)
  clear h1 h2 h3 h4
  refine hK.out _ _ (V.out) (fun hHeld => ?_)
  clear hK K
  refine pure_ (i := 11) (N := some 8) (v := ?_) (a' := ?_) #[true, true, true, true, true, true, true, true, true, true, true, true] rfl rfl (by kernel_rfl) (fun _ _ _ h => h) (Or.inl ⟨by rfl, ?_⟩) ?_ ?_
  rotate_left
  · intro w'; go_simp; with_reducible rfl
  rotate_left
  · simp only [Act.put, OpenRow.s1, OpenRow.s2, OpenRow.s3, i64_w, i32_w]; rfl
  refine done_ (by kernel_rfl) ?_
  (repeat go_step)
  obtain ⟨g, hg⟩ : ∃ g, g = g9_ := ⟨_, rfl⟩
  rw [← hg] at GA ⊢
  have EG := Aside0.mk (show w.heap.size + 4 ≤ g by rw [hg]; exact EE9.out)
  clear hg U T9 GG9 EE9
  have U := Aside0.mk V.out.drew
  have G := Aside0.mk (blk_drew GA.out)
  clear V GA
  by_cases hlt : s < orderN
  · have hz := (HZ.out.trans (if_pos hlt)).symm
    subst hz
    rw [decide_eq_true hlt] at HL
    clear hlt
    refine start_ (n := 4) (S := fun w' => St w [⟨52, .u64, num a⟩, ⟨52, .u64, num b⟩, ⟨52, .u64, num c⟩, ⟨52, .u64, z4⟩] w' ∧ w'.heap[g]? = some (.cells (arr .u64 (num s)) 52 (0, 0))) (ds := []) #[false, false, false, false] (by kernel_rfl) rfl rfl ⟨U.out, G.out⟩ (fun hHeld => ?_)
    refine take_ (i := 0) (N := some 18) (v := ?_) (a' := ?_) #[true, false, false, false] rfl rfl (by kernel_rfl) (fun _ _ _ h => h) (Or.inl ⟨by rfl, ?_⟩) hHeld ?_ ?_
    rotate_left
    · rintro w' ⟨s0, s1⟩
      refine (run_ld 52 (.tmp 7) (by rfl) g (by rfl) s1 Try.underlying52 (m := 4) (by kernel_rfl) (num_length _)).trans ?_; with_reducible rfl
    rotate_left
    · simp only [Act.put, OpenRow.s1, OpenRow.s2, OpenRow.s3, i64_w, i32_w]; rfl
    refine one_ (i := 1) (N := some 19) #[true, true, false, false] rfl rfl (by kernel_rfl) (by decide) (fun K hK => ?_)
    refine goes_ Try.func64 (by kernel_rfl) rfl #[] (by rfl) rfl rfl (by simp only [List.map_toArray, List.map_cons, List.map_nil] <;> rfl) ?_
    with_reducible refine (HO.out _).mono ?_
    rintro e w3 ⟨rfl, hb⟩
    refine ⟨_, rfl, ?_⟩
    have U1 := Aside0.mk (U.out.step hb)
    have G1 := Aside0.mk (blk_below G.out hb)
    clear hb
    refine hK.out _ _ ⟨U1.out, G1.out⟩ (fun hHeld => ?_)
    clear hK K
    refine norm_ (a' := ?_) ?_ ?_
    rotate_left
    · show Act.put _ (some 19) _ = _
      simp only [Act.put, OpenRow.s1, OpenRow.s2, OpenRow.s3, i64_w, i32_w]
      rfl
    refine one_ (i := 2) (N := some 20) #[true, true, true, false] rfl rfl (by kernel_rfl) (by decide) (fun K hK => ?_)
    refine goes_ Try.func63 (by kernel_rfl) rfl #[.agg (arr .u64 (num s)), .agg (arr .u64 (num orderN))] (by rfl) rfl rfl (by simp only [List.map_toArray, List.map_cons, List.map_nil] <;> rfl) ?_
    with_reducible refine (HL.out _).mono ?_
    rintro e w3 ⟨rfl, hb⟩
    refine ⟨_, rfl, ?_⟩
    have U2 := Aside0.mk (U1.out.step hb)
    have G2 := Aside0.mk (blk_below G1.out hb)
    clear hb
    refine hK.out _ _ ⟨U2.out, G2.out⟩ (fun hHeld => ?_)
    clear hK K
    refine norm_ (a' := ?_) ?_ ?_
    rotate_left
    · show Act.put _ (some 20) _ = _
      simp only [Act.put, OpenRow.s1, OpenRow.s2, OpenRow.s3, i64_w, i32_w]
      rfl
    refine pure_ (i := 3) (N := some 21) (v := ?_) (a' := ?_) #[true, true, true, true] rfl rfl (by kernel_rfl) (fun _ _ _ h => h) (Or.inl ⟨by rfl, ?_⟩) ?_ ?_
    rotate_left
    · intro w'; go_simp; with_reducible rfl
    rotate_left
    · simp only [Act.put, OpenRow.s1, OpenRow.s2, OpenRow.s3, i64_w, i32_w]; rfl
    refine done_ (by kernel_rfl) ?_
    go_wp2_with (first
      | ((with_reducible refine gate_dst (N := 28) rfl ?_); refine ld_arr rfl 52 (.tmp 7) rfl g rfl G2.out Try.underlying52 (m := 4) (by kernel_rfl) (num_length _) ?_)
      | (refine st_arr rfl 52 (.tmp 6) (.tmp 28) rfl (w.heap.size + 3) (xs := num s) rfl rfl (U2.out.blk 3 rfl) (m := 4) (by kernel_rfl) (num_length _) (by rw [num_length]; rfl) ?_; intro w' h1 h2 h4 h3; have H1 := Aside0.mk h1; have UE := Aside0.mk (U2.out.row 3 rfl h1 h2 h3); clear h1 h2 h3 h4))
    exact bodyPost_ret (results_cell_row Try.results26 _ _ (w.heap.size + 3) 52 _ (0, 0) _ rfl H1.out Try.underlying52 rfl (by rw [arr_size, num_length]; kernel_rfl)) rfl ⟨rfl, UE.out.below⟩
  · have hz := (HZ.out.trans (if_neg hlt)).symm
    subst hz
    rw [decide_eq_false hlt] at HL
    obtain ⟨bw, HM⟩ : ∃ bw : Value, Aside0 (∀ W, Calls Try.prog 68 #[.agg (arr .u64 (num s)), .agg (arr .u64 (num orderN))] W fun e w' => e = .returned (.tuple #[.agg (arr .u64 (num (s - orderN))), bw]) ∧ Below W.heap.size W w') := ⟨_, ⟨fun W => by
      have h := impl_number_minus.calls s orderN W
      rw [hsB, hoB] at h
      have e1 : s + P64 ^ 4 - orderN = (s - orderN) + P64 ^ 4 := by omega
      have e2 : (s + P64 ^ 4 - orderN) % P64 ^ 4 = (s - orderN) % P64 ^ 4 := (congrArg (· % P64 ^ 4) e1).trans (Nat.add_mod_right _ _)
      have e : num (s + P64 ^ 4 - orderN) = num (s - orderN) := (num_mod (s + P64 ^ 4 - orderN)).symm.trans ((congrArg num e2).trans (num_mod (s - orderN)))
      rw [e] at h
      exact h⟩⟩
    clear hlt hsB hoB
    refine start_ (n := 4) (S := fun w' => St w [⟨52, .u64, num a⟩, ⟨52, .u64, num b⟩, ⟨52, .u64, num c⟩, ⟨52, .u64, z4⟩] w' ∧ w'.heap[g]? = some (.cells (arr .u64 (num s)) 52 (0, 0))) (ds := []) #[false, false, false, false] (by kernel_rfl) rfl rfl ⟨U.out, G.out⟩ (fun hHeld => ?_)
    refine take_ (i := 0) (N := some 18) (v := ?_) (a' := ?_) #[true, false, false, false] rfl rfl (by kernel_rfl) (fun _ _ _ h => h) (Or.inl ⟨by rfl, ?_⟩) hHeld ?_ ?_
    rotate_left
    · rintro w' ⟨s0, s1⟩
      refine (run_ld 52 (.tmp 7) (by rfl) g (by rfl) s1 Try.underlying52 (m := 4) (by kernel_rfl) (num_length _)).trans ?_; with_reducible rfl
    rotate_left
    · simp only [Act.put, OpenRow.s1, OpenRow.s2, OpenRow.s3, i64_w, i32_w]; rfl
    refine one_ (i := 1) (N := some 19) #[true, true, false, false] rfl rfl (by kernel_rfl) (by decide) (fun K hK => ?_)
    refine goes_ Try.func64 (by kernel_rfl) rfl #[] (by rfl) rfl rfl (by simp only [List.map_toArray, List.map_cons, List.map_nil] <;> rfl) ?_
    with_reducible refine (HO.out _).mono ?_
    rintro e w3 ⟨rfl, hb⟩
    refine ⟨_, rfl, ?_⟩
    have U1 := Aside0.mk (U.out.step hb)
    have G1 := Aside0.mk (blk_below G.out hb)
    clear hb
    refine hK.out _ _ ⟨U1.out, G1.out⟩ (fun hHeld => ?_)
    clear hK K
    refine norm_ (a' := ?_) ?_ ?_
    rotate_left
    · show Act.put _ (some 19) _ = _
      simp only [Act.put, OpenRow.s1, OpenRow.s2, OpenRow.s3, i64_w, i32_w]
      rfl
    refine one_ (i := 2) (N := some 20) #[true, true, true, false] rfl rfl (by kernel_rfl) (by decide) (fun K hK => ?_)
    refine goes_ Try.func63 (by kernel_rfl) rfl #[.agg (arr .u64 (num s)), .agg (arr .u64 (num orderN))] (by rfl) rfl rfl (by simp only [List.map_toArray, List.map_cons, List.map_nil] <;> rfl) ?_
    with_reducible refine (HL.out _).mono ?_
    rintro e w3 ⟨rfl, hb⟩
    refine ⟨_, rfl, ?_⟩
    have U2 := Aside0.mk (U1.out.step hb)
    have G2 := Aside0.mk (blk_below G1.out hb)
    clear hb
    refine hK.out _ _ ⟨U2.out, G2.out⟩ (fun hHeld => ?_)
    clear hK K
    refine norm_ (a' := ?_) ?_ ?_
    rotate_left
    · show Act.put _ (some 20) _ = _
      simp only [Act.put, OpenRow.s1, OpenRow.s2, OpenRow.s3, i64_w, i32_w]
      rfl
    refine pure_ (i := 3) (N := some 21) (v := ?_) (a' := ?_) #[true, true, true, true] rfl rfl (by kernel_rfl) (fun _ _ _ h => h) (Or.inl ⟨by rfl, ?_⟩) ?_ ?_
    rotate_left
    · intro w'; go_simp; with_reducible rfl
    rotate_left
    · simp only [Act.put, OpenRow.s1, OpenRow.s2, OpenRow.s3, i64_w, i32_w]; rfl
    refine done_ (by kernel_rfl) ?_
    (repeat go_step)
    clear U U1 G G1
    have U := Aside0.mk U2.out.drew
    have G := Aside0.mk (blk_drew G2.out)
    clear U2 G2
    refine start_ (n := 7) (S := fun w' => St w [⟨52, .u64, num a⟩, ⟨52, .u64, num b⟩, ⟨52, .u64, num c⟩, ⟨52, .u64, z4⟩] w' ∧ w'.heap[g]? = some (.cells (arr .u64 (num s)) 52 (0, 0))) (ds := [6]) #[false, false, false, false, false, false, false] (by kernel_rfl) rfl rfl ⟨U.out, G.out⟩ (fun hHeld => ?_)
    refine take_ (i := 0) (N := some 23) (v := ?_) (a' := ?_) #[true, false, false, false, false, false, false] rfl rfl (by kernel_rfl) (fun _ _ _ h => h) (Or.inl ⟨by rfl, ?_⟩) hHeld ?_ ?_
    rotate_left
    · rintro w' ⟨s0, s1⟩
      refine (run_ld 52 (.tmp 7) (by rfl) g (by rfl) s1 Try.underlying52 (m := 4) (by kernel_rfl) (num_length _)).trans ?_; with_reducible rfl
    rotate_left
    · simp only [Act.put, OpenRow.s1, OpenRow.s2, OpenRow.s3, i64_w, i32_w]; rfl
    refine one_ (i := 1) (N := some 24) #[true, true, false, false, false, false, false] rfl rfl (by kernel_rfl) (by decide) (fun K hK => ?_)
    refine goes_ Try.func64 (by kernel_rfl) rfl #[] (by rfl) rfl rfl (by simp only [List.map_toArray, List.map_cons, List.map_nil] <;> rfl) ?_
    with_reducible refine (HO.out _).mono ?_
    rintro e w3 ⟨rfl, hb⟩
    refine ⟨_, rfl, ?_⟩
    have U3 := Aside0.mk (U.out.step hb)
    have G3 := Aside0.mk (blk_below G.out hb)
    clear hb
    refine hK.out _ _ ⟨U3.out, G3.out⟩ (fun hHeld => ?_)
    clear hK K
    refine norm_ (a' := ?_) ?_ ?_
    rotate_left
    · show Act.put _ (some 24) _ = _
      simp only [Act.put, OpenRow.s1, OpenRow.s2, OpenRow.s3, i64_w, i32_w]
      rfl
    refine one_ (i := 2) (N := some 25) #[true, true, true, false, false, false, false] rfl rfl (by kernel_rfl) (by decide) (fun K hK => ?_)
    refine goes_ Try.func68 (by kernel_rfl) rfl #[.agg (arr .u64 (num s)), .agg (arr .u64 (num orderN))] (by rfl) rfl rfl (by simp only [List.map_toArray, List.map_cons, List.map_nil] <;> rfl) ?_
    with_reducible refine (HM.out _).mono ?_
    rintro e w3 ⟨rfl, hb⟩
    refine ⟨_, rfl, ?_⟩
    have U4 := Aside0.mk (U3.out.step hb)
    have G4 := Aside0.mk (blk_below G3.out hb)
    clear hb
    refine hK.out _ _ ⟨U4.out, G4.out⟩ (fun hHeld => ?_)
    clear hK K
    refine norm_ (a' := ?_) ?_ ?_
    rotate_left
    · show Act.put _ (some 25) _ = _
      simp only [Act.put, OpenRow.s1, OpenRow.s2, OpenRow.s3, i64_w, i32_w]
      rfl
    refine pure_ (i := 3) (N := some 22) (v := ?_) (a' := ?_) #[true, true, true, true, false, false, false] rfl rfl (by kernel_rfl) (fun _ _ _ h => h) (Or.inl ⟨by rfl, ?_⟩) ?_ ?_
    rotate_left
    · intro w'; go_simp; with_reducible rfl
    rotate_left
    · simp only [Act.put, OpenRow.s1, OpenRow.s2, OpenRow.s3, i64_w, i32_w]; rfl
    refine pure_ (i := 4) (N := some 26) (v := ?_) (a' := ?_) #[true, true, true, true, true, false, false] rfl rfl (by kernel_rfl) (fun _ _ _ h => h) (Or.inl ⟨by rfl, ?_⟩) ?_ ?_
    rotate_left
    · intro w'; go_simp; with_reducible rfl
    rotate_left
    · simp only [Act.put, OpenRow.s1, OpenRow.s2, OpenRow.s3, i64_w, i32_w]; rfl
    refine pure_ (i := 5) (N := some 27) (v := ?_) (a' := ?_) #[true, true, true, true, true, true, false] rfl rfl (by kernel_rfl) (fun _ _ _ h => h) (Or.inl ⟨by rfl, ?_⟩) ?_ ?_
    rotate_left
    · intro w'; go_simp; with_reducible rfl
    rotate_left
    · simp only [Act.put, OpenRow.s1, OpenRow.s2, OpenRow.s3, i64_w, i32_w]; rfl
    refine last_ (i := 6) (N := none) #[true, true, true, true, true, true, true] rfl rfl (by kernel_rfl) (by decide) (fun K hK => ?_)
    refine st_step (by rfl) rfl 52 (.tmp 7) (.tmp 26) rfl g rfl rfl G4.out (m := 4) (by kernel_rfl) (num_length _) (by rw [num_length]; rfl) ?_
    intro w6 h1 h2 h3 h4
    have G5 := Aside0.mk h1
    have U5 := Aside0.mk (St.other U4.out h2 h3 EG.out)
    clear h1 h2 h3 h4
    refine hK.out _ _ ?_
    clear hK K
    refine done_ (by kernel_rfl) ?_
    go_wp2_with (first
      | ((with_reducible refine gate_dst (N := 28) rfl ?_); refine ld_arr rfl 52 (.tmp 7) rfl g rfl G5.out Try.underlying52 (m := 4) (by kernel_rfl) (num_length _) ?_)
      | (refine st_arr rfl 52 (.tmp 6) (.tmp 28) rfl (w.heap.size + 3) (xs := num (s - orderN)) rfl rfl (U5.out.blk 3 rfl) (m := 4) (by kernel_rfl) (num_length _) (by rw [num_length]; rfl) ?_; intro w' h1 h2 h4 h3; have H1 := Aside0.mk h1; have UE := Aside0.mk (U5.out.row 3 rfl h1 h2 h3); clear h1 h2 h3 h4))
    exact bodyPost_ret (results_cell_row Try.results26 _ _ (w.heap.size + 3) 52 _ (0, 0) _ rfl H1.out Try.underlying52 rfl (by rw [arr_size, num_length]; kernel_rfl)) rfl ⟨rfl, UE.out.below⟩
def impl_ScalarMulAdd.f (l0 : List Int) (l1 : List Int) (l2 : List Int) : Option (List Int × Int) := if ((isSc l0 && okB l0) && (isSc l1 && okB l1)) && (isSc l2 && okB l2) then some (limbs 256 32 ((bval l0 * bval l1 + bval l2) % orderN), 0) else none
theorem isSc_facts {l : List Int} (h : isSc l = true) : l.length = 32 ∧ bval l < orderN := by
  unfold isSc at h
  simpa only [Bool.and_eq_true, decide_eq_true_eq] using h
theorem short32 (A : Option Addr) (c : Nat) (l : List Int) (hc : l.length ≤ c) (h32 : l.length = 32) (W : World) (hC : Kd.C (Kd.int .u8) W A l.length l) : Calls Try.prog 14 #[.slice A l.length c] W fun e w' => e = .returned (.bool true) ∧ Below W.heap.size W w' :=
  (impl_isShort_byte.calls A c l true W hC hc (by unfold impl_isShort_byte.f; rw [decide_eq_true (by omega)])).mono fun e w' h => ⟨h.1, drawn_belowP h.2⟩
def three (a b c : Value) (i : Nat) : Value := if i = 0 then a else if i = 1 then b else c
set_option maxHeartbeats 4000000 in
set_option maxRecDepth 100000 in
theorem impl_ScalarMulAdd.calls (A0 : Option Addr) (c0 : Nat) (l0 : List Int) (A1 : Option Addr) (c1 : Nat) (l1 : List Int) (A2 : Option Addr) (c2 : Nat) (l2 : List Int) (r1 : List Int) (r2 : Int) (w : World) (hr0 : Kd.C (Kd.int .u8) w A0 l0.length l0) (hc0 : l0.length ≤ c0) (hr1 : Kd.C (Kd.int .u8) w A1 l1.length l1) (hc1 : l1.length ≤ c1) (hr2 : Kd.C (Kd.int .u8) w A2 l2.length l2) (hc2 : l2.length ≤ c2) (h : impl_ScalarMulAdd.f l0 l1 l2 = some (r1, r2)) :
    Calls Try.prog 9 #[.slice A0 l0.length c0, .slice A1 l1.length c1, .slice A2 l2.length c2] w fun e w' => ∃ v0_ : Value, e = .returned (.tuple #[v0_, .int .i64 r2]) ∧ Kd.R (Kd.int .u8) 5 w' w.heap.size (fun _ => True) v0_ r1 ∧ Below w.heap.size w w' := by
  unfold impl_ScalarMulAdd.f at h
  by_cases ho : (((isSc l0 && okB l0) && (isSc l1 && okB l1)) && (isSc l2 && okB l2)) = true
  · rw [if_pos ho] at h
    simp only [Option.some.injEq, Prod.mk.injEq] at h
    obtain ⟨rfl, rfl⟩ := h
    simp only [Bool.and_eq_true] at ho
    obtain ⟨⟨⟨s0, k0⟩, s1, k1⟩, s2, k2⟩ := ho
    obtain ⟨e0, q0⟩ := isSc_facts s0
    obtain ⟨e1, q1⟩ := isSc_facts s1
    obtain ⟨e2, q2⟩ := isSc_facts s2
    have hOB : orderN < BB := by decide
    obtain ⟨vf, hvf⟩ : ∃ vf, vf = three (.slice A0 l0.length c0) (.slice A1 l1.length c1) (.slice A2 l2.length c2) := ⟨_, rfl⟩
    have hcell : ∀ t i, i < 3 → (w.alloc (.cells #[.slice A0 l0.length c0, .slice A1 l1.length c1, .slice A2 l2.length c2] t)).cell? ⟨w.heap.size, i, none⟩ = some (vf i) := by
      intro t i hi
      rw [blk_cell (blk_new w (.cells #[.slice A0 l0.length c0, .slice A1 l1.length c1, .slice A2 l2.length c2] t)) i, hvf]
      have : i = 0 ∨ i = 1 ∨ i = 2 := by omega
      rcases this with rfl | rfl | rfl <;> rfl
    have hsh : ∀ i W, i < 3 → Below w.heap.size w W → Calls Try.prog 14 #[vf i] W fun e w' => e = .returned (.bool true) ∧ Below W.heap.size W w' := by
      intro i W hi hb
      rw [hvf]
      have : i = 0 ∨ i = 1 ∨ i = 2 := by omega
      rcases this with rfl | rfl | rfl
      · exact short32 A0 c0 l0 hc0 e0 W (Kd.C_below hr0 hb)
      · exact short32 A1 c1 l1 hc1 e1 W (Kd.C_below hr1 hb)
      · exact short32 A2 c2 l2 hc2 e2 W (Kd.C_below hr2 hb)
    have hsc : ∀ i W, i < 3 → Below w.heap.size w W → Calls Try.prog 25 #[vf i] W fun e w' => e = .returned (.bool true) ∧ Below W.heap.size W w' := by
      intro i W hi hb
      rw [hvf]
      have : i = 0 ∨ i = 1 ∨ i = 2 := by omega
      rcases this with rfl | rfl | rfl
      · have h := impl_isScalar.calls A0 c0 l0 W (Kd.C_below hr0 hb) hc0 k0; rw [s0] at h; exact h
      · have h := impl_isScalar.calls A1 c1 l1 W (Kd.C_below hr1 hb) hc1 k1; rw [s1] at h; exact h
      · have h := impl_isScalar.calls A2 c2 l2 W (Kd.C_below hr2 hb) hc2 k2; rw [s2] at h; exact h
    have hal : ∀ t, Below w.heap.size w (w.alloc (.cells #[.slice A0 l0.length c0, .slice A1 l1.length c1, .slice A2 l2.length c2] t)) := fun t => below_alloc (Below.refl _ _) _
    have HC1 := Aside0.mk (fun t => (show Calls Try.prog 24 #[.slice (some ⟨w.heap.size, 0, none⟩) 3 3, .func (.func 14) #[] #[]] (w.alloc (.cells #[.slice A0 l0.length c0, .slice A1 l1.length c1, .slice A2 l2.length c2] t)) fun e w' => e = .returned (.bool true) ∧ Below (w.alloc (.cells #[.slice A0 l0.length c0, .slice A1 l1.length c1, .slice A2 l2.length c2] t)).heap.size (w.alloc (.cells #[.slice A0 l0.length c0, .slice A1 l1.length c1, .slice A2 l2.length c2] t)) w' from
      allRows.calls 14 #[] (fun _ => true) (enters_rows Try.func14 rfl rfl) w.heap.size 3 3 vf _ (by simp) (by omega) (hcell t) (fun i W hi hb => hsh i W hi (below_step (hal t) hb))))
    have HC2 := Aside0.mk (fun t W (hW : Below (w.alloc (.cells #[.slice A0 l0.length c0, .slice A1 l1.length c1, .slice A2 l2.length c2] t)).heap.size (w.alloc (.cells #[.slice A0 l0.length c0, .slice A1 l1.length c1, .slice A2 l2.length c2] t)) W) => (show Calls Try.prog 24 #[.slice (some ⟨w.heap.size, 0, none⟩) 3 3, .func (.func 25) #[] #[]] W fun e w' => e = .returned (.bool true) ∧ Below W.heap.size W w' from
      allRows.calls 25 #[] (fun _ => true) (enters_rows Try.func25 rfl rfl) w.heap.size 3 3 vf W (Nat.lt_of_lt_of_le (by simp) hW.size) (by omega) (fun i hi => (hW.cell (p := ⟨w.heap.size, i, none⟩) (by simp)).trans (hcell t i hi)) (fun i W' hi hb => hsc i W' hi (below_step (below_step (hal t) hW) hb))))
    have HB0 := Aside0.mk hal
    have N0 := Aside0.mk (fun W (hb : Below w.heap.size w W) => impl_numberOf.calls A0 c0 l0 W (Kd.C_below hr0 hb) (by omega) (okB_ok l0 k0))
    have N1 := Aside0.mk (fun W (hb : Below w.heap.size w W) => impl_numberOf.calls A1 c1 l1 W (Kd.C_below hr1 hb) (by omega) (okB_ok l1 k1))
    have N2 := Aside0.mk (fun W (hb : Below w.heap.size w W) => impl_numberOf.calls A2 c2 l2 W (Kd.C_below hr2 hb) (by omega) (okB_ok l2 k2))
    have HM := Aside0.mk (fun W => impl_mulAdd.calls (bval l0) (bval l1) (bval l2) W (Nat.lt_trans q0 hOB) (Nat.lt_trans q1 hOB) q2)
    have HB := Aside0.mk (fun W => impl_number_bytes.calls ((bval l0 * bval l1 + bval l2) % orderN) W)
    clear hr0 hc0 hr1 hc1 hr2 hc2 s0 k0 s1 k1 s2 k2 e0 q0 e1 q1 e2 q2 hOB hvf hcell hsh hsc hal
    generalize (bval l0 * bval l1 + bval l2) % orderN = r at *
    generalize bval l0 = x at *
    generalize bval l1 = y at *
    generalize bval l2 = z at *
    go_enter Try.func9, Try.ntmps9
    go_wp2_with (first
      | ((with_reducible refine (HC1.out _).mono ?_); rintro e w1 ⟨rfl, hb⟩; have BA := Aside0.mk hb; have B1 := Aside0.mk (below_step (HB0.out _) hb); clear hb)
      | ((with_reducible refine (HC2.out _ _ BA.out).mono ?_); rintro e w2 ⟨rfl, hb⟩; have B2 := Aside0.mk (below_step B1.out hb); clear hb)
      | ((with_reducible refine (N0.out _ B2.out).mono ?_); rintro e w3 ⟨rfl, hb⟩; have B3 := Aside0.mk (below_step B2.out hb); clear hb)
      | ((with_reducible refine (N1.out _ B3.out).mono ?_); rintro e w4 ⟨rfl, hb⟩; have B4 := Aside0.mk (below_step B3.out hb); clear hb)
      | ((with_reducible refine (N2.out _ B4.out).mono ?_); rintro e w5 ⟨rfl, hb⟩; have B5 := Aside0.mk (below_step B4.out hb); clear hb)
      | ((with_reducible refine (HM.out _).mono ?_); rintro e w6 ⟨rfl, hb⟩; have B6 := Aside0.mk (below_step B5.out hb); clear hb)
      | ((with_reducible refine (HB.out _).mono ?_); rintro e w7 ⟨v, rfl, hR, hb⟩; have HR := Aside0.mk (Kd.R_lower hR (below_size B6.out)); have B7 := Aside0.mk (below_step B6.out hb); clear hb hR))
    go_ret2
    exact ⟨_, rfl, HR.out, B7.out⟩
  · rw [if_neg ho] at h; cases h
set_option maxHeartbeats 4000000 in
set_option maxRecDepth 100000 in
theorem impl_zero.calls (w : World) :
    Calls Try.prog 69 #[] w fun e w' => e = .returned (.agg (arr .u64 (p4 zeroI))) ∧ Below w.heap.size w w' := by
  have HP := Aside0.mk (fun W => (show Calls Try.prog 46 #[.agg #[.int .u64 0, .int .u64 0, .int .u64 0, .int .u64 0], .agg #[.int .u64 1, .int .u64 0, .int .u64 0, .int .u64 0]] W fun e w' => e = .returned (.agg (arr .u64 (p4 zeroI))) ∧ Below W.heap.size W w' from by
    have h := impl_pointAt.calls 0 1 W (by decide) (by decide)
    rw [show num 0 = [0, 0, 0, 0] from by decide, show num 1 = [1, 0, 0, 0] from by decide] at h
    exact h))
  have HPL := Aside0.mk (p4_length zeroI)
  generalize p4 zeroI = ps at *
  have S := Aside0.mk ((St.start w).push rfl 36 .u64 z16)
  go_enter Try.func69, Try.ntmps69
  go_wp2_with (first
    | ((refine (HP.out _).mono ?_); rintro e w1 ⟨rfl, hb⟩; have S1 := Aside0.mk (S.out.step hb); clear hb)
    | (refine st_arr rfl 36 (.tmp 0) (.tmp 3) rfl w.heap.size (xs := ps) rfl rfl (S1.out.blk 0 rfl) (m := 16) (by kernel_rfl) HPL.out (by rw [HPL.out]; rfl) ?_; intro w' h1 h2 h4 h3; have H1 := Aside0.mk h1; have S2 := Aside0.mk (S1.out.row 0 rfl h1 h2 h3); clear h1 h2 h3 h4))
  exact bodyPost_ret (results_cell_row Try.results69 _ _ w.heap.size 36 _ (0, 0) _ rfl H1.out Try.underlying36 rfl (by rw [arr_size, HPL.out]; kernel_rfl)) rfl ⟨rfl, S2.out.below⟩
set_option maxHeartbeats 4000000 in
set_option maxRecDepth 100000 in
theorem impl_point_times.calls (k : Nat) (P : Q4) (w : World) (hk : k < P64 ^ 4) (hP : Lt4 P) :
    Calls Try.prog 29 #[.agg (arr .u64 (p4 P)), .agg (arr .u64 (num k))] w fun e w' => e = .returned (.agg (arr .u64 (p4 (tmI k P 256)))) ∧ Below w.heap.size w w' := by
  have LN := Aside0.mk (num_length k)
  have HZ := Aside0.mk (fun W => impl_zero.calls W)
  have HPP := Aside0.mk (fun A B W (hA : Lt4 A) (hB : Lt4 B) => impl_point_plus.calls A B W hA hB)
  have HP := Aside0.mk hP
  clear hP hk
  have S := Aside0.mk ((((St.start w).push rfl 36 .u64 (p4 P)).push (World.size_alloc ..) 52 .u64 (num k)).push (by rw [World.size_alloc, World.size_alloc]; rfl) 36 .u64 z16)
  go_enter Try.func29, Try.ntmps29
  go_wp2_with (first
    | ((with_reducible refine (HZ.out _).mono ?_); rintro e w1 ⟨rfl, hb⟩; have S1 := Aside0.mk (S.out.step hb); clear hb)
    | (refine st_arr rfl 36 (.tmp 5) (.tmp 7) rfl w1.heap.size (xs := p4 zeroI) rfl rfl (blk_new w1 (.cells (arr .u64 z16) 36)) (m := 16) (by kernel_rfl) (p4_length _) (by rw [p4_length]; rfl) ?_; intro w2 h1 h2 h4 h3; have G2 := Aside0.mk h1; have S2 := Aside0.mk (St.other (S1.out.alloc (.cells (arr .u64 z16) 36)) h2 h3 S1.out.size); have E5 := Aside0.mk S1.out.size; clear h1 h2 h3 h4))
  obtain ⟨g5, hg5⟩ : ∃ g, g = w1.heap.size := ⟨_, rfl⟩
  rw [← hg5] at G2 E5 ⊢
  clear hg5 S S1
  go_loopg [6] 257 (fun gg s6 wr => ∃ j : Nat, j ≤ 256 ∧ 256 - j ≤ gg ∧ s6 = .int .i64 (255 - (j : Int)) ∧ Aside0 (St w [⟨36, .u64, p4 P⟩, ⟨52, .u64, num k⟩, ⟨36, .u64, z16⟩] wr) ∧ Aside0 (wr.heap[g5]? = some (.cells (arr .u64 (p4 (tmI k P j))) 36 (0, 0))))
  case atStart => exact ⟨0, by omega, by omega, rfl, S2, G2⟩
  case round =>
    clear S2 G2
    obtain ⟨j0, hj0, hg, rfl, S2, G2⟩ := hrel
    by_cases hlt : j0 < 256
    · obtain ⟨i, hi⟩ : ∃ i : Nat, i = 255 - j0 := ⟨_, rfl⟩
      have e0 : (255 : Int) - (j0 : Int) = (i : Int) := by omega
      rw [e0]
      have hi0 : (i : Int) ≥ 0 := by omega
      have hi5 : i < 256 := by omega
      have hbit := num_and k i hi5
      have HL := Aside0.mk (tm_lt k P j0)
      have EQ := Aside0.mk (show tmI k P (j0 + 1) = if k / 2 ^ i % 2 = 1 then addI (addI (tmI k P j0) (tmI k P j0)) P else addI (tmI k P j0) (tmI k P j0) from by rw [hi]; rfl)
      have HM1 := Aside0.mk (fun W => HPP.out (tmI k P j0) (tmI k P j0) W HL.out HL.out)
      have HM2 := Aside0.mk (fun W => HPP.out (addI (tmI k P j0) (tmI k P j0)) P W (add_lt _ _) HP.out)
      generalize tmI k P j0 = X at *
      generalize addI X X = Y at *
      generalize addI Y P = Z at *
      have EJ := Aside0.mk (show (i : Int) - 1 = 255 - ((j0 + 1 : Nat) : Int) by omega)
      obtain ⟨j, hj⟩ : ∃ j : Nat, j = i / 64 := ⟨_, rfl⟩
      obtain ⟨q, hq⟩ : ∃ q : Nat, q = i % 64 := ⟨_, rfl⟩
      have hj1 : (i : Int) / 64 = (j : Int) := by omega
      have hj3 : (i : Int).tdiv 64 = (j : Int) := by rw [Int.tdiv_eq_ediv_of_nonneg (by omega)]; omega
      have hq1 : (i : Int) % 64 = (q : Int) := by omega
      have hq2 : (i : Int).tmod 64 = (q : Int) := by rw [Int.tmod_eq_emod_of_nonneg (by omega)]; omega
      have j8 : (j : Int) < 4 := by omega
      have q63 : (q : Int) < 64 := by omega
      have j8n : j < 4 := by omega
      have q63n : q < 64 := by omega
      have m63 : min q 64 = q := by omega
      have wj : IntKind.i64.wrap (j : Int) = (j : Int) := by rw [IntKind.wrap_i64]; omega
      have wq : IntKind.i64.wrap (q : Int) = (q : Int) := by rw [IntKind.wrap_i64]; omega
      have r1 := getD_range (num_ok k) j (by rw [num_length]; omega)
      have r2 := r1.1
      clear r1
      rw [← hj, ← hq] at hbit
      have c1 := fun W (h : St w [⟨36, .u64, p4 P⟩, ⟨52, .u64, num k⟩, ⟨36, .u64, z16⟩] W) => h.cell 1 rfl j (by rw [LN.out]; omega)
      have C1 := Aside0.mk c1
      generalize (num k).getD j 0 = v1 at *
      clear c1
      rcases Nat.mod_two_eq_zero_or_one (k / 2 ^ i) with hb0 | hb0
      · have HY := Aside0.mk (EQ.out.trans (if_neg (by omega)))
        rw [hb0] at hbit
        have hbit0 : bits .and .u64 (v1 / 2 ^ q) 1 = 0 := hbit
        clear hbit hb0 hj hq e0 hi EQ
        go_wp2_with (first
          | ((with_reducible refine gate_dst (N := 12) rfl ?_); refine ld_any rfl 36 (.tmp 5) rfl g5 rfl G2.out Try.underlying36 rfl (m := 16) (by kernel_rfl) (p4_length _) ?_)
          | ((with_reducible refine gate_dst (N := 13) rfl ?_); refine ld_any rfl 36 (.tmp 5) rfl g5 rfl G2.out Try.underlying36 rfl (m := 16) (by kernel_rfl) (p4_length _) ?_)
          | ((with_reducible refine (HM1.out _).mono ?_); rintro e w3 ⟨rfl, hb⟩; have S3 := Aside0.mk (S2.out.step hb); have G3 := Aside0.mk (blk_below G2.out hb); clear hb)
          | (refine st_arr rfl 36 (.tmp 5) (.tmp 14) rfl g5 (xs := p4 Y) rfl rfl G3.out (m := 16) (by kernel_rfl) (p4_length _) (by rw [p4_length, p4_length]) ?_; intro w4 h1 h2 h4 h3; have G4 := Aside0.mk h1; have S4 := Aside0.mk (St.other S3.out h2 h3 E5.out); have c1 := C1.out _ S4.out; clear h1 h2 h3 h4))
        go_roundg (256 - (j0 + 1))
        case measure => omega
        case rel => exact ⟨j0 + 1, by omega, Nat.le_refl _, by rw [← EJ.out], S4, by rw [HY.out]; exact G4⟩
      · have HY := Aside0.mk (EQ.out.trans (if_pos hb0))
        rw [hb0] at hbit
        have hbit0 : bits .and .u64 (v1 / 2 ^ q) 1 = 1 := hbit
        clear hbit hb0 hj hq e0 hi EQ
        go_wp2_with (first
          | ((with_reducible refine gate_dst (N := 12) rfl ?_); refine ld_any rfl 36 (.tmp 5) rfl g5 rfl G2.out Try.underlying36 rfl (m := 16) (by kernel_rfl) (p4_length _) ?_)
          | ((with_reducible refine gate_dst (N := 13) rfl ?_); refine ld_any rfl 36 (.tmp 5) rfl g5 rfl G2.out Try.underlying36 rfl (m := 16) (by kernel_rfl) (p4_length _) ?_)
          | ((with_reducible refine (HM1.out _).mono ?_); rintro e w3 ⟨rfl, hb⟩; have S3 := Aside0.mk (S2.out.step hb); have G3 := Aside0.mk (blk_below G2.out hb); clear hb)
          | (refine st_arr rfl 36 (.tmp 5) (.tmp 14) rfl g5 (xs := p4 Y) rfl rfl G3.out (m := 16) (by kernel_rfl) (p4_length _) (by rw [p4_length, p4_length]) ?_; intro w4 h1 h2 h4 h3; have G4 := Aside0.mk h1; have S4 := Aside0.mk (St.other S3.out h2 h3 E5.out); have c1 := C1.out _ S4.out; clear h1 h2 h3 h4)
          | ((with_reducible refine gate_dst (N := 24) rfl ?_); refine ld_any rfl 36 (.tmp 5) rfl g5 rfl G4.out Try.underlying36 rfl (m := 16) (by kernel_rfl) (p4_length _) ?_)
          | ((with_reducible refine gate_dst (N := 25) rfl ?_); refine ld_any rfl 36 (.tmp 2) rfl w.heap.size rfl (S4.out.blk 0 rfl) Try.underlying36 rfl (m := 16) (by kernel_rfl) (p4_length _) ?_)
          | ((with_reducible refine (HM2.out _).mono ?_); rintro e w5 ⟨rfl, hb⟩; have S5 := Aside0.mk (S4.out.step hb); have G5 := Aside0.mk (blk_below G4.out hb); clear hb)
          | (refine st_arr rfl 36 (.tmp 5) (.tmp 26) rfl g5 (xs := p4 Z) rfl rfl G5.out (m := 16) (by kernel_rfl) (p4_length _) (by rw [p4_length, p4_length]) ?_; intro w4 h1 h2 h4 h3; have G6 := Aside0.mk h1; have S6 := Aside0.mk (St.other S5.out h2 h3 E5.out); clear h1 h2 h3 h4))
        go_roundg (256 - (j0 + 1))
        case measure => omega
        case rel => exact ⟨j0 + 1, by omega, Nat.le_refl _, by rw [← EJ.out], S6, by rw [HY.out]; exact G6⟩
    · obtain rfl : j0 = 256 := by omega
      have e0 : (255 : Int) - ((256 : Nat) : Int) = -1 := rfl
      rw [e0]
      clear hlt hj0 hg
      go_wp2_with (first
        | ((with_reducible refine gate_dst (N := 27) rfl ?_); refine ld_any rfl 36 (.tmp 5) rfl g5 rfl G2.out Try.underlying36 rfl (m := 16) (by kernel_rfl) (p4_length _) ?_)
        | (refine st_arr rfl 36 (.tmp 4) (.tmp 27) rfl (w.heap.size + 2) (xs := p4 (tmI k P 256)) rfl rfl (S2.out.blk 2 rfl) (m := 16) (by kernel_rfl) (p4_length _) (by rw [p4_length]; rfl) ?_; intro w' h1 h2 h4 h3; have H1 := Aside0.mk h1; have S3 := Aside0.mk (S2.out.row 2 rfl h1 h2 h3); clear h1 h2 h3 h4))
      exact bodyPost_ret (results_cell_row Try.results29 _ _ (w.heap.size + 2) 36 _ (0, 0) _ rfl H1.out Try.underlying36 rfl (by rw [arr_size, p4_length]; kernel_rfl)) rfl ⟨rfl, S3.out.below⟩
def impl_PointTimes.f (l0 : List Int) (l1 : List Int) : Option (List Int × Int) := if (decide (l0.length = 32) && okB l0) && (okP l1 && okB l1) then some (enc4 (tmI (bval l0) (q4 l1) 256), 0) else none
set_option maxHeartbeats 4000000 in
set_option maxRecDepth 100000 in
theorem impl_PointTimes.calls (A0 : Option Addr) (c0 : Nat) (l0 : List Int) (A1 : Option Addr) (c1 : Nat) (l1 : List Int) (r1 : List Int) (r2 : Int) (w : World) (hr0 : Kd.C (Kd.int .u8) w A0 l0.length l0) (hc0 : l0.length ≤ c0) (hr1 : Kd.C (Kd.int .u8) w A1 l1.length l1) (hc1 : l1.length ≤ c1) (h : impl_PointTimes.f l0 l1 = some (r1, r2)) :
    Calls Try.prog 10 #[.slice A0 l0.length c0, .slice A1 l1.length c1] w fun e w' => ∃ v0_ : Value, e = .returned (.tuple #[v0_, .int .i64 r2]) ∧ Kd.R (Kd.int .u8) 5 w' w.heap.size (fun _ => True) v0_ r1 ∧ Below w.heap.size w w' := by
  unfold impl_PointTimes.f at h
  by_cases ho : ((decide (l0.length = 32) && okB l0) && (okP l1 && okB l1)) = true
  · rw [if_pos ho] at h
    simp only [Option.some.injEq, Prod.mk.injEq] at h
    obtain ⟨rfl, rfl⟩ := h
    simp only [Bool.and_eq_true, decide_eq_true_eq] at ho
    obtain ⟨⟨e0, hb0⟩, ho1, hb1⟩ := ho
    have e1 := okP_32 l1 ho1
    have H0 := Aside0.mk (fun W (hb : Below w.heap.size w W) => impl_isShort_byte.calls A0 c0 l0 true W (Kd.C_below hr0 hb) hc0 (by unfold impl_isShort_byte.f; rw [decide_eq_true (by omega)]))
    have H1 := Aside0.mk (fun W (hb : Below w.heap.size w W) => impl_isShort_byte.calls A1 c1 l1 true W (Kd.C_below hr1 hb) hc1 (by unfold impl_isShort_byte.f; rw [decide_eq_true (by omega)]))
    have P1 := Aside0.mk (fun W (hb : Below w.heap.size w W) => (show Calls Try.prog 15 #[.slice A1 l1.length c1] W fun e w' => e = .returned (.tuple #[.agg (arr .u64 (p4 (q4 l1))), .bool true]) ∧ Below W.heap.size W w' from by have h := impl_pointOf.calls A1 c1 l1 W (Kd.C_below hr1 hb) hc1 hb1; rw [ptV_q4 l1 ho1, ho1] at h; exact h))
    have HN := Aside0.mk (fun W (hb : Below w.heap.size w W) => impl_numberOf.calls A0 c0 l0 W (Kd.C_below hr0 hb) (by omega) (okB_ok l0 hb0))
    have hkB : bval l0 < P64 ^ 4 := bval_lt32 l0 (okB_ok l0 hb0) e0
    have HT := Aside0.mk (fun W => impl_point_times.calls (bval l0) (q4 l1) W hkB (q4_lt l1 ho1))
    have HB := Aside0.mk (fun W => impl_point_bytes.calls (tmI (bval l0) (q4 l1) 256) W (tm_lt _ _ _))
    clear hr0 hr1 hc0 hc1 ho1 hb0 hb1 hkB
    generalize tmI (bval l0) (q4 l1) 256 = Z at *
    generalize q4 l1 = X at *
    generalize bval l0 = k at *
    rw [e0, e1] at *
    have e32 : ((32 : Nat) : Int) = 32 := rfl
    have S := Aside0.mk (St.start w)
    go_enter Try.func10, Try.ntmps10
    go_wp2_with (first
      | ((with_reducible refine (H0.out _ S.out.below).mono ?_); rintro e w1 ⟨rfl, hb⟩; have S1 := Aside0.mk (S.out.step (drawn_belowP hb)); clear hb)
      | ((with_reducible refine (H1.out _ S1.out.below).mono ?_); rintro e w2 ⟨rfl, hb⟩; have S2 := Aside0.mk (S1.out.step (drawn_belowP hb)); clear hb)
      | ((with_reducible refine (P1.out _ S2.out.below).mono ?_); rintro e w3 ⟨rfl, hb⟩; have S3 := Aside0.mk (S2.out.step hb); clear hb)
      | (refine st_arr rfl 36 (.tmp 6) (.tmp 19) rfl w3.heap.size (xs := p4 X) rfl rfl (blk_new w3 (.cells (arr .u64 z16) 36)) (m := 16) (by kernel_rfl) (p4_length _) (by rw [p4_length]; rfl) ?_; intro w3' h1 h2 h4 h3; have G4 := Aside0.mk h1; have S4 := Aside0.mk (St.other (S3.out.alloc (.cells (arr .u64 z16) 36)) h2 h3 S3.out.size); clear h1 h2 h3 h4))
    obtain ⟨g, hg⟩ : ∃ g, g = w3.heap.size := ⟨_, rfl⟩
    rw [← hg] at G4 ⊢
    have G := Aside0.mk (blk_drew G4.out)
    have B := Aside0.mk (below_drew S4.out.below)
    clear hg S S1 S2 S3 S4 G4
    refine start_ (n := 7) (S := fun w' => w'.heap[g]? = some (.cells (arr .u64 (p4 X)) 36 (0, 0))) (ds := []) #[false, false, false, false, false, false, false] (by kernel_rfl) rfl rfl (G.out) (fun hHeld => ?_)
    refine pure_ (i := 1) (N := some 29) (v := ?_) (a' := ?_) #[false, true, false, false, false, false, false] rfl rfl (by kernel_rfl) (fun _ _ _ h => h) (Or.inl ⟨by rfl, ?_⟩) ?_ ?_
    rotate_left
    · intro w'; go_simp; with_reducible rfl
    rotate_left
    · simp only [Act.put, OpenRow.s1, OpenRow.s2, OpenRow.s3, i64_w, i32_w]; rfl
    refine take_ (i := 0) (N := some 28) (v := ?_) (a' := ?_) #[true, true, false, false, false, false, false] rfl rfl (by kernel_rfl) (fun _ _ _ h => h) (Or.inl ⟨by rfl, ?_⟩) hHeld ?_ ?_
    rotate_left
    · intro w' s0
      refine (run_any 36 (.tmp 6) (by rfl) g (by rfl) s0 Try.underlying36 rfl (m := 16) (by kernel_rfl) (p4_length _)).trans ?_; with_reducible rfl
    rotate_left
    · simp only [Act.put, OpenRow.s1, OpenRow.s2, OpenRow.s3, i64_w, i32_w]; rfl
    refine one_ (i := 2) (N := some 30) #[true, true, true, false, false, false, false] rfl rfl (by kernel_rfl) (by decide) (fun K hK => ?_)
    refine goes_ Try.func27 (by kernel_rfl) rfl #[.slice A0 32 c0] (by rfl) rfl rfl (by simp only [List.map_toArray, List.map_cons, List.map_nil] <;> rfl) ?_
    with_reducible refine (HN.out _ B.out).mono ?_
    rintro e w3 ⟨rfl, hb⟩
    refine ⟨_, rfl, ?_⟩
    have G1 := Aside0.mk (blk_below G.out hb)
    have B1 := Aside0.mk (below_step B.out hb)
    clear hb
    refine hK.out _ _ (G1.out) (fun hHeld => ?_)
    clear hK K
    refine norm_ (a' := ?_) ?_ ?_
    rotate_left
    · show Act.put _ (some 30) _ = _
      simp only [Act.put, OpenRow.s1, OpenRow.s2, OpenRow.s3, i64_w, i32_w]
      rfl
    refine one_ (i := 3) (N := some 31) #[true, true, true, true, false, false, false] rfl rfl (by kernel_rfl) (by decide) (fun K hK => ?_)
    refine goes_ Try.func29 (by kernel_rfl) rfl #[.agg (arr .u64 (p4 X)), .agg (arr .u64 (num k))] (by rfl) rfl rfl (by simp only [List.map_toArray, List.map_cons, List.map_nil] <;> rfl) ?_
    with_reducible refine (HT.out _).mono ?_
    rintro e w3 ⟨rfl, hb⟩
    refine ⟨_, rfl, ?_⟩
    have G2 := Aside0.mk (blk_below G1.out hb)
    have B2 := Aside0.mk (below_step B1.out hb)
    clear hb
    refine hK.out _ _ (G2.out) (fun hHeld => ?_)
    clear hK K
    refine norm_ (a' := ?_) ?_ ?_
    rotate_left
    · show Act.put _ (some 31) _ = _
      simp only [Act.put, OpenRow.s1, OpenRow.s2, OpenRow.s3, i64_w, i32_w]
      rfl
    refine one_ (i := 4) (N := some 32) #[true, true, true, true, true, false, false] rfl rfl (by kernel_rfl) (by decide) (fun K hK => ?_)
    refine goes_ Try.func17 (by kernel_rfl) rfl #[.agg (arr .u64 (p4 Z))] (by rfl) rfl rfl (by simp only [List.map_toArray, List.map_cons, List.map_nil] <;> rfl) ?_
    with_reducible refine (HB.out _).mono ?_
    rintro e w3 ⟨v, rfl, hR, hb⟩
    refine ⟨_, rfl, ?_⟩
    have G3 := Aside0.mk (blk_below G2.out hb)
    have B3 := Aside0.mk (below_step B2.out hb)
    have HR := Aside0.mk (Kd.R_lower hR (below_size B2.out))
    clear hR
    clear hb
    refine hK.out _ _ (G3.out) (fun hHeld => ?_)
    clear hK K
    refine norm_ (a' := ?_) ?_ ?_
    rotate_left
    · show Act.put _ (some 32) _ = _
      simp only [Act.put, OpenRow.s1, OpenRow.s2, OpenRow.s3, i64_w, i32_w]
      rfl
    refine pure_ (i := 5) (N := some 4) (v := ?_) (a' := ?_) #[true, true, true, true, true, true, false] rfl rfl (by kernel_rfl) (fun _ _ _ h => h) (Or.inl ⟨by rfl, ?_⟩) ?_ ?_
    rotate_left
    · intro w'; go_simp; with_reducible rfl
    rotate_left
    · simp only [Act.put, OpenRow.s1, OpenRow.s2, OpenRow.s3, i64_w, i32_w]; rfl
    refine pure_ (i := 6) (N := some 5) (v := ?_) (a' := ?_) #[true, true, true, true, true, true, true] rfl rfl (by kernel_rfl) (fun _ _ _ h => h) (Or.inl ⟨by rfl, ?_⟩) ?_ ?_
    rotate_left
    · intro w'; go_simp; with_reducible rfl
    rotate_left
    · simp only [Act.put, OpenRow.s1, OpenRow.s2, OpenRow.s3, i64_w, i32_w]; rfl
    refine done_ (by kernel_rfl) ?_
    (repeat go_step)
    go_ret2
    exact ⟨_, rfl, HR.out, B3.out⟩
  · rw [if_neg ho] at h; cases h
def baseX : Nat := 15112221349535400772501151409588531511454012693041857206046113283949847762202
def baseY : Nat := 46316835694926478169428394003475163141307993866256225615783033603165251855960
set_option maxHeartbeats 1000000 in
set_option maxRecDepth 100000 in
theorem impl_base.calls (w : World) :
    Calls Try.prog 30 #[] w fun e w' => e = .returned (.agg (arr .u64 (ptL baseX baseY 1 (baseX * baseY % PP)))) ∧ Below w.heap.size w w' := by
  have HP := Aside0.mk (fun W => (show Calls Try.prog 46 #[.agg #[.int .u64 14507833142362363162, .int .u64 7578651490590762930, .int .u64 13881468655802702940, .int .u64 2407515759118799870], .agg #[.int .u64 7378697629483820632, .int .u64 7378697629483820646, .int .u64 7378697629483820646, .int .u64 7378697629483820646]] W _ from by
    have h := impl_pointAt.calls baseX baseY W (by decide) (by decide)
    rw [show num baseX = [14507833142362363162, 7578651490590762930, 13881468655802702940, 2407515759118799870] from by decide, show num baseY = [7378697629483820632, 7378697629483820646, 7378697629483820646, 7378697629483820646] from by decide] at h
    exact h))
  have HPL := Aside0.mk (ptL_length baseX baseY 1 (baseX * baseY % PP))
  generalize ptL baseX baseY 1 (baseX * baseY % PP) = ps at *
  have S := Aside0.mk ((St.start w).push rfl 36 .u64 z16)
  go_enter Try.func30, Try.ntmps30
  go_wp2_with (first
    | ((refine (HP.out _).mono ?_); rintro e w1 ⟨rfl, hb⟩; have S1 := Aside0.mk (S.out.step hb); clear hb)
    | (refine st_arr rfl 36 (.tmp 0) (.tmp 3) rfl w.heap.size (xs := ps) rfl rfl (S1.out.blk 0 rfl) (m := 16) (by kernel_rfl) HPL.out (by rw [HPL.out]; rfl) ?_; intro w' h1 h2 h4 h3; have H1 := Aside0.mk h1; have S2 := Aside0.mk (S1.out.row 0 rfl h1 h2 h3); clear h1 h2 h3 h4))
  exact bodyPost_ret (results_cell_row Try.results30 _ _ w.heap.size 36 _ (0, 0) _ rfl H1.out Try.underlying36 rfl (by rw [arr_size, HPL.out]; kernel_rfl)) rfl ⟨rfl, S2.out.below⟩
def impl_BasePoint.f : Option (List Int) := some (limbs 256 32 (baseY * 1 % PP))
set_option maxHeartbeats 1000000 in
set_option maxRecDepth 100000 in
theorem impl_BasePoint.calls (r : List Int) (w : World) (h : impl_BasePoint.f = some r) :
    Calls Try.prog 11 #[] w fun e w' => ∃ v0_ : Value, e = .returned (v0_) ∧ Kd.R (Kd.int .u8) 5 w' w.heap.size (fun _ => True) v0_ r ∧ Below w.heap.size w w' := by
  obtain rfl := Option.some.inj h
  clear h
  have HB := Aside0.mk (fun W => impl_point_bytes.even baseX baseY 1 (baseX * baseY % PP) 1 W (by decide) (by decide) (by decide) (by rw [Nat.one_pow]; decide) (by decide))
  have HA := Aside0.mk (fun W => impl_base.calls W)
  generalize limbs 256 32 (baseY * 1 % PP) = bs at *
  generalize ptL baseX baseY 1 (baseX * baseY % PP) = ps at *
  have B0 := Aside0.mk (Below.refl w.heap.size w)
  go_enter Try.func11, Try.ntmps11
  go_wp2_with (first
    | ((with_reducible refine (HA.out _).mono ?_); rintro e w1 ⟨rfl, hb⟩; have B1 := Aside0.mk (below_step B0.out hb); clear hb)
    | ((with_reducible refine (HB.out _).mono ?_); rintro e w2 ⟨v, rfl, hR, hb⟩; have HR := Aside0.mk (Kd.R_lower hR (below_size B1.out)); have B2 := Aside0.mk (below_step B1.out hb); clear hb hR))
  go_ret
  exact ⟨_, rfl, HR.out, B2.out⟩
end Go.Proofs.Ytlajcahlmbjmnaa.XQ
