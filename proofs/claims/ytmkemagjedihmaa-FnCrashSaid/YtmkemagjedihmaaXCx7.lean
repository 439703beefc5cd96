-- Written by a program of this session (xp.py over the kit's printer, with functions proved by hand). Lean checks it.
import Derived.Test.YtmkemagjedihmaaXCx0
import Derived.Test.YtmkemagjedihmaaXCx4
import Derived.Test.YtmkemagjedihmaaXCx5
import Derived.Test.YtmkemagjedihmaaXCx6
namespace Go.Proofs.Ytmkemagjedihmaa.XC
open Go.Proofs.Ytmkemagjedihmaa.Limb Go.Proofs.Ytmkemagjedihmaa.Arr Go.Proofs.Ytmkemagjedihmaa.FldA Go.Proofs.Ytmkemagjedihmaa.FldB Go.Proofs.Ytmkemagjedihmaa.FldC Go.Proofs.Ytmkemagjedihmaa.FldS Go.Proofs.Ytmkemagjedihmaa.FldP Go.Proofs.Ytmkemagjedihmaa.FldW Go.Proofs.Ytmkemagjedihmaa.St Go.Proofs.Ytmkemagjedihmaa.OpenS Go.Proofs.Ytmkemagjedihmaa.StOps Go.Proofs.Ytmkemagjedihmaa.Open Go.Proofs.Ytmkemagjedihmaa.OpenWin Go.Proofs.Ytmkemagjedihmaa.OpenCopy Go.Proofs.Ytmkemagjedihmaa.OpenCopy2 Go.Proofs.Ytmkemagjedihmaa.StSrc
open Go.RowKit Go.Proofs.YtmkemagjedihmaaW.PrintWords Go.Proofs.YtmkemagjedihmaaW.PrintLast Go.Proofs.YtmkemagjedihmaaW.PrintMore
attribute [local go_sem] max2_int min2_int max_two min_two max_three min_three max_four min_four   -- for this text's walks alone
set_option linter.unusedVariables false
set_option linter.unusedSimpArgs false

/-! ### laws_FnCrash: function 3 -/
mutual
def laws_FnCrash.j0 : Nat → List Int → List Int → Bool → Option (Bool)
  | 0, _, _, _ => none
  | k + 1, x0, x1, x24 => if x24 = true then (some true) else ((spec_DeviceOf.f k x0).bind fun bt196 => ((spec_FlagsOf.f x1).bind fun t203 => ((impl_DeviceCrash.f k bt196.1 bt196.2 t203).bind fun bt206 => ((spec_DeviceCrash.f k bt196.1 bt196.2 t203).bind fun bt214 => ((impl_DeviceCrash.f k bt196.1 bt196.2 ([] : List Bool)).bind fun bt222 => (if bt206.2.2 = 0 then (if bt222.2.2 = 0 then (if (strOfNums bt206.1).toList = (strOfNums bt214.1).toList then (if (bt206.2.1.length : Int) = 0 then (laws_FnCrash.j1 k ((strOfNums bt222.1).toList != (strOfNums bt196.1).toList) bt196.1 bt196.2 bt206.1 bt206.2.1) else (laws_FnCrash.j1 k true bt196.1 bt196.2 bt206.1 bt206.2.1)) else (laws_FnCrash.j1 k true bt196.1 bt196.2 bt206.1 bt206.2.1)) else (laws_FnCrash.j1 k true bt196.1 bt196.2 bt206.1 bt206.2.1)) else (laws_FnCrash.j1 k true bt196.1 bt196.2 bt206.1 bt206.2.1)))))))
def laws_FnCrash.j1 : Nat → Bool → List Int → List (S32) → List Int → List (S32) → Option (Bool)
  | 0, _, _, _, _, _ => none
  | k + 1, x75, x203000, x203001, x214000, x214001 => if x75 = true then (some false) else (laws_FnCrash.l0 k 0 x203000 x203001 x214000 x214001)
def laws_FnCrash.l0 : Nat → Int → List Int → List (S32) → List Int → List (S32) → Option (Bool)
  | 0, _, _, _, _, _ => none
  | k + 1, x13, x203000, x203001, x214000, x214001 => if (wrap64 (x13 * 32)) < (x214000.length : Int) then (if 0 ≤ (wrap64 (x13 * 32)) then (if (wrap64 (x13 * 32)) ≤ (wrap64 ((wrap64 (x13 + 1)) * 32)) then (if (wrap64 ((wrap64 (x13 + 1)) * 32)) ≤ (x214000.length : Int) then ((some ((x214000.take ((wrap64 ((wrap64 (x13 + 1)) * 32)) : Int).toNat).drop ((wrap64 (x13 * 32)) : Int).toNat : List Int)).bind fun y230 => (if 32 ≤ 281474976710656 then (if (wrap64 ((wrap64 (x13 + 1)) * 32)) ≤ (x203000.length : Int) then (laws_FnCrash.j3 k x13 (strOfNums y230) ((strOfNums y230).toList == (strOfNums ((x203000.take ((wrap64 ((wrap64 (x13 + 1)) * 32)) : Int).toNat).drop ((wrap64 (x13 * 32)) : Int).toNat)).toList) x203000 x203001 x214000 x214001) else (laws_FnCrash.j3 k x13 (strOfNums y230) ((strOfNums y230).toList == (strOfNums (List.replicate 32 0)).toList) x203000 x203001 x214000 x214001)) else (none))) else (none)) else (none)) else (none)) else (some true)
def laws_FnCrash.j3 : Nat → Int → ByteArray → Bool → List Int → List (S32) → List Int → List (S32) → Option (Bool)
  | 0, _, _, _, _, _, _, _ => none
  | k + 1, x13, x14, x15, x203000, x203001, x214000, x214001 => laws_FnCrash.l1 k x13 x14 x15 0 x203000 x203001 x214000 x214001
def laws_FnCrash.l1 : Nat → Int → ByteArray → Bool → Int → List Int → List (S32) → List Int → List (S32) → Option (Bool)
  | 0, _, _, _, _, _, _, _, _ => none
  | k + 1, x13, x14, x15, x16, x203000, x203001, x214000, x214001 => if x16 < (x203001.length : Int) then (if x15 = true then (laws_FnCrash.l1 k x13 x14 true (wrap64 (x16 + 1)) x203000 x203001 x214000 x214001) else (if 0 ≤ x16 then (if ((rd_T32 x203001 x16).f0) = x13 then (laws_FnCrash.l1 k x13 x14 ((strOfNums ((rd_T32 x203001 x16).f1)).toList == x14.toList) (wrap64 (x16 + 1)) x203000 x203001 x214000 x214001) else (laws_FnCrash.l1 k x13 x14 false (wrap64 (x16 + 1)) x203000 x203001 x214000 x214001)) else (none))) else (if x15 = true then (laws_FnCrash.l0 k (wrap64 (x13 + 1)) x203000 x203001 x214000 x214001) else (some false))
end
def laws_FnCrash.f (k : Nat) (l0 : List Int) (l1 : List Int) : Option (Bool) := if (l0.length : Int) > 1048576 then (laws_FnCrash.j0 k l0 l1 true) else (laws_FnCrash.j0 k l0 l1 (decide ((l1.length : Int) > 1048576)))
theorem laws_FnCrash.mono_l : ∀ k, (∀ y0 y1 y2, LeO (laws_FnCrash.j0 k y0 y1 y2) (laws_FnCrash.j0 (k + 1) y0 y1 y2)) ∧ (∀ y0 y1 y2 y3 y4, LeO (laws_FnCrash.j1 k y0 y1 y2 y3 y4) (laws_FnCrash.j1 (k + 1) y0 y1 y2 y3 y4)) ∧ (∀ y0 y1 y2 y3 y4, LeO (laws_FnCrash.l0 k y0 y1 y2 y3 y4) (laws_FnCrash.l0 (k + 1) y0 y1 y2 y3 y4)) ∧ (∀ y0 y1 y2 y3 y4 y5 y6, LeO (laws_FnCrash.j3 k y0 y1 y2 y3 y4 y5 y6) (laws_FnCrash.j3 (k + 1) y0 y1 y2 y3 y4 y5 y6)) ∧ (∀ y0 y1 y2 y3 y4 y5 y6 y7, LeO (laws_FnCrash.l1 k y0 y1 y2 y3 y4 y5 y6 y7) (laws_FnCrash.l1 (k + 1) y0 y1 y2 y3 y4 y5 y6 y7))
  | 0 => ⟨fun _ _ _ r h => by simp [laws_FnCrash.j0] at h, fun _ _ _ _ _ r h => by simp [laws_FnCrash.j1] at h, fun _ _ _ _ _ r h => by simp [laws_FnCrash.l0] at h, fun _ _ _ _ _ _ _ r h => by simp [laws_FnCrash.j3] at h, fun _ _ _ _ _ _ _ _ r h => by simp [laws_FnCrash.l1] at h⟩
  | k + 1 => by
    obtain ⟨ih0, ih1, ih2, ih3, ih4⟩ := laws_FnCrash.mono_l k
    refine ⟨?_, ?_, ?_, ?_, ?_⟩
    · intro y0 y1 y2
      unfold laws_FnCrash.j0
      repeat' first
      | (with_reducible exact ih0 _ _ _)
      | (with_reducible exact ih1 _ _ _ _ _)
      | (with_reducible exact ih2 _ _ _ _ _)
      | (with_reducible exact ih3 _ _ _ _ _ _ _)
      | (with_reducible exact ih4 _ _ _ _ _ _ _ _)
      | (with_reducible exact impl_DeviceCrash.mono _ _ _ _)
      | (with_reducible exact spec_DeviceCrash.mono _ _ _ _)
      | (with_reducible exact spec_DeviceOf.mono _ _)
      | (with_reducible exact LeO.refl _)
      | (with_reducible exact LeO.none _)
      | (with_reducible refine LeO.ite ?_ ?_)
      | (with_reducible refine LeO.bind ?_ (fun _ => ?_))
      | exact ih0 _ _ _
      | exact ih1 _ _ _ _ _
      | exact ih2 _ _ _ _ _
      | exact ih3 _ _ _ _ _ _ _
      | exact ih4 _ _ _ _ _ _ _ _
      | exact impl_DeviceCrash.mono _ _ _ _
      | exact spec_DeviceCrash.mono _ _ _ _
      | exact spec_DeviceOf.mono _ _
      | exact LeO.none _
      | refine LeO.ite ?_ ?_
      | refine LeO.bind ?_ (fun _ => ?_)
    · intro y0 y1 y2 y3 y4
      unfold laws_FnCrash.j1
      repeat' first
      | (with_reducible exact ih0 _ _ _)
      | (with_reducible exact ih1 _ _ _ _ _)
      | (with_reducible exact ih2 _ _ _ _ _)
      | (with_reducible exact ih3 _ _ _ _ _ _ _)
      | (with_reducible exact ih4 _ _ _ _ _ _ _ _)
      | (with_reducible exact impl_DeviceCrash.mono _ _ _ _)
      | (with_reducible exact spec_DeviceCrash.mono _ _ _ _)
      | (with_reducible exact spec_DeviceOf.mono _ _)
      | (with_reducible exact LeO.refl _)
      | (with_reducible exact LeO.none _)
      | (with_reducible refine LeO.ite ?_ ?_)
      | (with_reducible refine LeO.bind ?_ (fun _ => ?_))
      | exact ih0 _ _ _
      | exact ih1 _ _ _ _ _
      | exact ih2 _ _ _ _ _
      | exact ih3 _ _ _ _ _ _ _
      | exact ih4 _ _ _ _ _ _ _ _
      | exact impl_DeviceCrash.mono _ _ _ _
      | exact spec_DeviceCrash.mono _ _ _ _
      | exact spec_DeviceOf.mono _ _
      | exact LeO.none _
      | refine LeO.ite ?_ ?_
      | refine LeO.bind ?_ (fun _ => ?_)
    · intro y0 y1 y2 y3 y4
      unfold laws_FnCrash.l0
      repeat' first
      | (with_reducible exact ih0 _ _ _)
      | (with_reducible exact ih1 _ _ _ _ _)
      | (with_reducible exact ih2 _ _ _ _ _)
      | (with_reducible exact ih3 _ _ _ _ _ _ _)
      | (with_reducible exact ih4 _ _ _ _ _ _ _ _)
      | (with_reducible exact impl_DeviceCrash.mono _ _ _ _)
      | (with_reducible exact spec_DeviceCrash.mono _ _ _ _)
      | (with_reducible exact spec_DeviceOf.mono _ _)
      | (with_reducible exact LeO.refl _)
      | (with_reducible exact LeO.none _)
      | (with_reducible refine LeO.ite ?_ ?_)
      | (with_reducible refine LeO.bind ?_ (fun _ => ?_))
      | exact ih0 _ _ _
      | exact ih1 _ _ _ _ _
      | exact ih2 _ _ _ _ _
      | exact ih3 _ _ _ _ _ _ _
      | exact ih4 _ _ _ _ _ _ _ _
      | exact impl_DeviceCrash.mono _ _ _ _
      | exact spec_DeviceCrash.mono _ _ _ _
      | exact spec_DeviceOf.mono _ _
      | exact LeO.none _
      | refine LeO.ite ?_ ?_
      | refine LeO.bind ?_ (fun _ => ?_)
    · intro y0 y1 y2 y3 y4 y5 y6
      unfold laws_FnCrash.j3
      repeat' first
      | (with_reducible exact ih0 _ _ _)
      | (with_reducible exact ih1 _ _ _ _ _)
      | (with_reducible exact ih2 _ _ _ _ _)
      | (with_reducible exact ih3 _ _ _ _ _ _ _)
      | (with_reducible exact ih4 _ _ _ _ _ _ _ _)
      | (with_reducible exact impl_DeviceCrash.mono _ _ _ _)
      | (with_reducible exact spec_DeviceCrash.mono _ _ _ _)
      | (with_reducible exact spec_DeviceOf.mono _ _)
      | (with_reducible exact LeO.refl _)
      | (with_reducible exact LeO.none _)
      | (with_reducible refine LeO.ite ?_ ?_)
      | (with_reducible refine LeO.bind ?_ (fun _ => ?_))
      | exact ih0 _ _ _
      | exact ih1 _ _ _ _ _
      | exact ih2 _ _ _ _ _
      | exact ih3 _ _ _ _ _ _ _
      | exact ih4 _ _ _ _ _ _ _ _
      | exact impl_DeviceCrash.mono _ _ _ _
      | exact spec_DeviceCrash.mono _ _ _ _
      | exact spec_DeviceOf.mono _ _
      | exact LeO.none _
      | refine LeO.ite ?_ ?_
      | refine LeO.bind ?_ (fun _ => ?_)
    · intro y0 y1 y2 y3 y4 y5 y6 y7
      unfold laws_FnCrash.l1
      repeat' first
      | (with_reducible exact ih0 _ _ _)
      | (with_reducible exact ih1 _ _ _ _ _)
      | (with_reducible exact ih2 _ _ _ _ _)
      | (with_reducible exact ih3 _ _ _ _ _ _ _)
      | (with_reducible exact ih4 _ _ _ _ _ _ _ _)
      | (with_reducible exact impl_DeviceCrash.mono _ _ _ _)
      | (with_reducible exact spec_DeviceCrash.mono _ _ _ _)
      | (with_reducible exact spec_DeviceOf.mono _ _)
      | (with_reducible exact LeO.refl _)
      | (with_reducible exact LeO.none _)
      | (with_reducible refine LeO.ite ?_ ?_)
      | (with_reducible refine LeO.bind ?_ (fun _ => ?_))
      | exact ih0 _ _ _
      | exact ih1 _ _ _ _ _
      | exact ih2 _ _ _ _ _
      | exact ih3 _ _ _ _ _ _ _
      | exact ih4 _ _ _ _ _ _ _ _
      | exact impl_DeviceCrash.mono _ _ _ _
      | exact spec_DeviceCrash.mono _ _ _ _
      | exact spec_DeviceOf.mono _ _
      | exact LeO.none _
      | refine LeO.ite ?_ ?_
      | refine LeO.bind ?_ (fun _ => ?_)
theorem laws_FnCrash.mono : ∀ a0 a1 k, LeO (laws_FnCrash.f k a0 a1) (laws_FnCrash.f (k + 1) a0 a1) := by
  intro a0 a1 k
  obtain ⟨ih0, ih1, ih2, ih3, ih4⟩ := laws_FnCrash.mono_l k
  unfold laws_FnCrash.f
  repeat' first
      | (with_reducible exact ih0 _ _ _)
      | (with_reducible exact ih1 _ _ _ _ _)
      | (with_reducible exact ih2 _ _ _ _ _)
      | (with_reducible exact ih3 _ _ _ _ _ _ _)
      | (with_reducible exact ih4 _ _ _ _ _ _ _ _)
      | (with_reducible exact impl_DeviceCrash.mono _ _ _ _)
      | (with_reducible exact spec_DeviceCrash.mono _ _ _ _)
      | (with_reducible exact spec_DeviceOf.mono _ _)
      | (with_reducible exact LeO.refl _)
      | (with_reducible exact LeO.none _)
      | (with_reducible refine LeO.ite ?_ ?_)
      | (with_reducible refine LeO.bind ?_ (fun _ => ?_))
      | exact ih0 _ _ _
      | exact ih1 _ _ _ _ _
      | exact ih2 _ _ _ _ _
      | exact ih3 _ _ _ _ _ _ _
      | exact ih4 _ _ _ _ _ _ _ _
      | exact impl_DeviceCrash.mono _ _ _ _
      | exact spec_DeviceCrash.mono _ _ _ _
      | exact spec_DeviceOf.mono _ _
      | exact LeO.none _
      | refine LeO.ite ?_ ?_
      | refine LeO.bind ?_ (fun _ => ?_)
set_option maxHeartbeats 8000000 in
set_option maxRecDepth 100000 in
theorem laws_FnCrash.calls (k : Nat) (A0 : Option Addr) (c0 : Nat) (l0 : List Int) (A1 : Option Addr) (c1 : Nat) (l1 : List Int) (r : Bool) (w : World) (hr0 : Kd.C (Kd.int .u8) w A0 l0.length l0) (hc0 : l0.length ≤ c0) (hr1 : Kd.C (Kd.int .u8) w A1 l1.length l1) (hc1 : l1.length ≤ c1) (h : laws_FnCrash.f k l0 l1 = some r) :
    Calls Try.prog 3 #[.slice A0 l0.length c0, .slice A1 l1.length c1] w fun e w' => e = .returned (.bool r) ∧ Below w.heap.size w w' := by
  have hu25 := Try.underlying25
  have HR0 := Aside0.mk hr0
  have HC0 := Aside0.mk hc0
  clear hr0 hc0
  have HR1 := Aside0.mk hr1
  have HC1 := Aside0.mk hc1
  clear hr1 hc1
  have HB := Aside0.mk (Below.refl w.heap.size w)
  have H : (if (l0.length : Int) > 1048576 then (laws_FnCrash.j0 k l0 l1 true) else (laws_FnCrash.j0 k l0 l1 (decide ((l1.length : Int) > 1048576)))) = some r := h
  clear h
  have HC3 := Aside0.mk H
  clear H
  go_enter Try.func3, Try.ntmps3
  go_upto_region 1 with (fail)
  go_cut [24] (fun v24 wc => ∃ (kq : Nat) (x24_2 : Bool), v24 = .bool x24_2 ∧ Aside0 (laws_FnCrash.j0 kq l0 l1 x24_2 = some r) ∧ Aside0 (kq ≤ k) ∧ Aside0 (Below w.heap.size w wc))
  case first =>
    have H := HC3.out
    clear HC3
    by_cases c4 : (l0.length : Int) > 1048576
    · rw [if_pos c4] at H
      have c4b0 : decide (1048576 < (l0.length : Int)) = true := decide_eq_true c4
      have c4b1 : decide (1048576 < l0.length) = true := decide_eq_true (by omega)
      clear c4
      (first | rw [c4b0] | (simp only [i64_w, i32_w]; rw [c4b0]) | skip)
      have H' := Aside0.mk H
      clear H
      go_wp2
      go_meet
      case rel => exact ⟨_, (true), (by first | rfl | (simp; done) | (simp [*]; done)), H', ⟨by first | omega | exact Nat.le_refl _⟩, ⟨by repeat (first | (with_reducible first | exact HB.out | apply below_alloc | apply pw_below_drewN | apply below_drew1) | exact HB.out)⟩⟩
    · rw [if_neg c4] at H
      have c4b0 : decide (1048576 < (l0.length : Int)) = false := decide_eq_false c4
      have c4b1 : decide (1048576 < l0.length) = false := decide_eq_false (by omega)
      clear c4
      (first | rw [c4b0] | (simp only [i64_w, i32_w]; rw [c4b0]) | skip)
      have H' := Aside0.mk H
      clear H
      go_wp2
      go_meet
      case rel => exact ⟨_, (decide ((l1.length : Int) > 1048576)), (by first | rfl | (simp; done) | (simp [*]; done)), H', ⟨by first | omega | exact Nat.le_refl _⟩, ⟨by repeat (first | (with_reducible first | exact HB.out | apply below_alloc | apply pw_below_drewN | apply below_drew1) | exact HB.out)⟩⟩
  case rest =>
    clear HC3
    try clear c1
    try clear p2
    try clear c3
    try clear c4
    try clear c4b0
    try clear c4b1
    obtain ⟨kq, x24_2, rfl, HA, HJ2, HB⟩ := hcut
    cases kq with
    | zero => exact absurd HA.out (by simp [laws_FnCrash.j0])
    | succ kj2 =>
      have H := HA.out
      clear HA
      simp only [laws_FnCrash.j0] at H
      by_cases c5 : x24_2 = true
      · subst c5
        have H1 : (some true) = some r := by rw [if_pos rfl] at H; exact H
        clear H
        have H := H1
        clear H1
        obtain rfl := Option.some.inj H
        go_wp2
        go_ret
        exact ⟨by first | rfl | (simp [errW_none, errW_some] <;> rfl) | (simp [*, errW_none, errW_some] <;> rfl), by repeat (first | (with_reducible first | exact HB.out | apply below_alloc | apply pw_below_drewN | apply below_drew1) | exact HB.out)⟩
      · replace c5 := Bool.eq_false_iff.mpr c5
        subst c5
        have H1 : ((spec_DeviceOf.f kj2 l0).bind fun bt196 => ((spec_FlagsOf.f l1).bind fun t203 => ((impl_DeviceCrash.f kj2 bt196.1 bt196.2 t203).bind fun bt206 => ((spec_DeviceCrash.f kj2 bt196.1 bt196.2 t203).bind fun bt214 => ((impl_DeviceCrash.f kj2 bt196.1 bt196.2 ([] : List Bool)).bind fun bt222 => (if bt206.2.2 = 0 then (if bt222.2.2 = 0 then (if (strOfNums bt206.1).toList = (strOfNums bt214.1).toList then (if (bt206.2.1.length : Int) = 0 then (laws_FnCrash.j1 kj2 ((strOfNums bt222.1).toList != (strOfNums bt196.1).toList) bt196.1 bt196.2 bt206.1 bt206.2.1) else (laws_FnCrash.j1 kj2 true bt196.1 bt196.2 bt206.1 bt206.2.1)) else (laws_FnCrash.j1 kj2 true bt196.1 bt196.2 bt206.1 bt206.2.1)) else (laws_FnCrash.j1 kj2 true bt196.1 bt196.2 bt206.1 bt206.2.1)) else (laws_FnCrash.j1 kj2 true bt196.1 bt196.2 bt206.1 bt206.2.1))))))) = some r := by rw [if_neg (show ¬ (false = true) by decide)] at H; exact H
        clear H
        have H := H1
        clear H1
        replace H := Option.bind_eq_some_iff.mp H
        obtain ⟨⟨t196, t199⟩, A60, H⟩ := H
        replace H : ((spec_FlagsOf.f l1).bind fun t203 => ((impl_DeviceCrash.f kj2 t196 t199 t203).bind fun bt206 => ((spec_DeviceCrash.f kj2 t196 t199 t203).bind fun bt214 => ((impl_DeviceCrash.f kj2 t196 t199 ([] : List Bool)).bind fun bt222 => (if bt206.2.2 = 0 then (if bt222.2.2 = 0 then (if (strOfNums bt206.1).toList = (strOfNums bt214.1).toList then (if (bt206.2.1.length : Int) = 0 then (laws_FnCrash.j1 kj2 ((strOfNums bt222.1).toList != (strOfNums t196).toList) t196 t199 bt206.1 bt206.2.1) else (laws_FnCrash.j1 kj2 true t196 t199 bt206.1 bt206.2.1)) else (laws_FnCrash.j1 kj2 true t196 t199 bt206.1 bt206.2.1)) else (laws_FnCrash.j1 kj2 true t196 t199 bt206.1 bt206.2.1)) else (laws_FnCrash.j1 kj2 true t196 t199 bt206.1 bt206.2.1)))))) = some r := H
        have A6 := Aside0.mk A60
        clear A60
        replace H := Option.bind_eq_some_iff.mp H
        obtain ⟨t203, A70, H⟩ := H
        replace H : ((impl_DeviceCrash.f kj2 t196 t199 t203).bind fun bt206 => ((spec_DeviceCrash.f kj2 t196 t199 t203).bind fun bt214 => ((impl_DeviceCrash.f kj2 t196 t199 ([] : List Bool)).bind fun bt222 => (if bt206.2.2 = 0 then (if bt222.2.2 = 0 then (if (strOfNums bt206.1).toList = (strOfNums bt214.1).toList then (if (bt206.2.1.length : Int) = 0 then (laws_FnCrash.j1 kj2 ((strOfNums bt222.1).toList != (strOfNums t196).toList) t196 t199 bt206.1 bt206.2.1) else (laws_FnCrash.j1 kj2 true t196 t199 bt206.1 bt206.2.1)) else (laws_FnCrash.j1 kj2 true t196 t199 bt206.1 bt206.2.1)) else (laws_FnCrash.j1 kj2 true t196 t199 bt206.1 bt206.2.1)) else (laws_FnCrash.j1 kj2 true t196 t199 bt206.1 bt206.2.1))))) = some r := H
        have A7 := Aside0.mk A70
        clear A70
        replace H := Option.bind_eq_some_iff.mp H
        obtain ⟨⟨t206, t209, t212⟩, A80, H⟩ := H
        replace H : ((spec_DeviceCrash.f kj2 t196 t199 t203).bind fun bt214 => ((impl_DeviceCrash.f kj2 t196 t199 ([] : List Bool)).bind fun bt222 => (if t212 = 0 then (if bt222.2.2 = 0 then (if (strOfNums t206).toList = (strOfNums bt214.1).toList then (if (t209.length : Int) = 0 then (laws_FnCrash.j1 kj2 ((strOfNums bt222.1).toList != (strOfNums t196).toList) t196 t199 t206 t209) else (laws_FnCrash.j1 kj2 true t196 t199 t206 t209)) else (laws_FnCrash.j1 kj2 true t196 t199 t206 t209)) else (laws_FnCrash.j1 kj2 true t196 t199 t206 t209)) else (laws_FnCrash.j1 kj2 true t196 t199 t206 t209)))) = some r := H
        have A8 := Aside0.mk A80
        clear A80
        replace H := Option.bind_eq_some_iff.mp H
        obtain ⟨⟨t214, t217, t220⟩, A90, H⟩ := H
        replace H : ((impl_DeviceCrash.f kj2 t196 t199 ([] : List Bool)).bind fun bt222 => (if t212 = 0 then (if bt222.2.2 = 0 then (if (strOfNums t206).toList = (strOfNums t214).toList then (if (t209.length : Int) = 0 then (laws_FnCrash.j1 kj2 ((strOfNums bt222.1).toList != (strOfNums t196).toList) t196 t199 t206 t209) else (laws_FnCrash.j1 kj2 true t196 t199 t206 t209)) else (laws_FnCrash.j1 kj2 true t196 t199 t206 t209)) else (laws_FnCrash.j1 kj2 true t196 t199 t206 t209)) else (laws_FnCrash.j1 kj2 true t196 t199 t206 t209))) = some r := H
        have A9 := Aside0.mk A90
        clear A90
        replace H := Option.bind_eq_some_iff.mp H
        obtain ⟨⟨t222, t225, t228⟩, A100, H⟩ := H
        replace H : (if t212 = 0 then (if t228 = 0 then (if (strOfNums t206).toList = (strOfNums t214).toList then (if (t209.length : Int) = 0 then (laws_FnCrash.j1 kj2 ((strOfNums t222).toList != (strOfNums t196).toList) t196 t199 t206 t209) else (laws_FnCrash.j1 kj2 true t196 t199 t206 t209)) else (laws_FnCrash.j1 kj2 true t196 t199 t206 t209)) else (laws_FnCrash.j1 kj2 true t196 t199 t206 t209)) else (laws_FnCrash.j1 kj2 true t196 t199 t206 t209)) = some r := H
        have A10 := Aside0.mk A100
        clear A100
        have HC11 := Aside0.mk H
        clear H
        go_upto_region 8 with (first | ((with_reducible refine gate_callee (f := 4) rfl ?_); refine goesL_ (some 26) rfl rfl Try.func4 (by kernel_rfl) rfl #[.slice A0 l0.length c0] rfl (by (try simp only [List.map_toArray, List.map_cons, List.map_nil]); first | done | rfl | (simp only [List.length_drop, List.length_take]; rfl)) ?_; (with_reducible refine (spec_DeviceOf.calls kj2 _ _ l0 t196 t199 _ ?side1 ?side2 A6.out).mono ?_); (case side1 => repeat (first | exact (Kd.C_below HR0.out HB.out) | (with_reducible refine Kd.C_alloc ?_ _) | (with_reducible refine Kd.C_drewN ?_ _) | (with_reducible refine Kd.C_drew ?_))); (case side2 => exact HC0.out); rintro e w12 ⟨v197, v200, rfl, ho0, ho1, hb⟩; refine ⟨_, rfl, ?_⟩; have n0_ := Aside0.mk (Kd.R_lower (Kd.R_mono (ok' := fun k_ => True) ho0 (fun _ hk_ => trivial)) (below_size (by repeat (first | (with_reducible first | exact HB.out | apply below_alloc | apply pw_below_drewN | apply below_drew1) | exact HB.out)))); have n1_ := Aside0.mk (Kd.V_lower (Kd.V_mono (ok' := fun k_ => some k_ ≠ (v197 : Value).ownBlock) ho1 (fun k_ hk_ => hk_.2)) (below_size (by repeat (first | (with_reducible first | exact HB.out | apply below_alloc | apply pw_below_drewN | apply below_drew1) | exact HB.out)))); have n2_ := Aside0.mk (below_step (by repeat (first | (with_reducible first | exact HB.out | apply below_alloc | apply pw_below_drewN | apply below_drew1) | exact HB.out)) hb); clear HB; have HO198 := n0_; have HO201 := n1_; have HB := n2_; clear n0_ n1_ n2_; (try clear hb); (try clear hb2); (try clear hk); (try clear hi); (try clear ho0); (try clear ho1)) | ((with_reducible refine gate_dst (N := 5) rfl ?_); (try (refine gate_guard (by rfl) ?_; dsimp only)); refine box_event ?hg (N := 5) ?hd (cs := #[.slice none 0 0, .slice none 0 0]) (t := 25) ?hr ?_; (case hd => rfl); (case hg => rfl); (case hr => first | (go_simp; done) | (go_simp; rfl)); intro gb202 hg w13 hbox hb; have n0_ := Aside0.mk (Kd.R_below (by (with_reducible repeat (first | apply Kd.R_alloc | apply Kd.R_drewN | apply Kd.R_drew)); exact HO198.out) hb); have n1_ := Aside0.mk (Kd.V_below (Kd.V_elderB (by (with_reducible repeat (first | apply Kd.V_alloc | apply Kd.V_drewN | apply Kd.V_drew)); exact HO201.out) gb202 (Nat.le_of_eq hg.symm)) hb); have n2_ := Aside0.mk (below_step (by repeat (first | (with_reducible first | exact HB.out | apply below_alloc | apply pw_below_drewN | apply below_drew1) | exact HB.out)) hb); have n3_ := Aside0.mk (hbox); have n4_ := Aside0.mk ((by rw [hg]; exact (below_size (by repeat (first | (with_reducible first | exact HB.out | apply below_alloc | apply pw_below_drewN | apply below_drew1) | exact HB.out))) : w.heap.size ≤ gb202)); have n5_ := Aside0.mk ((by rw [hg]; exact (below_size (by repeat (first | (with_reducible first | exact HB.out | apply below_alloc | apply pw_below_drewN | apply below_drew1) | exact HB.out))) : w.heap.size ≤ gb202)); clear HO198; clear HO201; clear HB; have HO198 := n0_; have HO201 := n1_; have HB := n2_; have BK202 := n3_; have GW202 := n4_; have GE202 := n5_; clear n0_ n1_ n2_ n3_ n4_ n5_; clear hb hbox hg; obtain ⟨Ao14, co14, eo14⟩ := Kd.R_slice HO198.out; subst eo14; have hcz15_0 : w13.cell? ⟨gb202, 0, none⟩ = some (.slice none 0 0) := (blk_cell BK202.out 0).trans rfl; have hcz15_1 : w13.cell? ⟨gb202, 1, none⟩ = some (.slice none 0 0) := (blk_cell BK202.out 1).trans rfl; have hfz15_0 := blk_frozen BK202.out 0; have hfz15_1 := blk_frozen BK202.out 1; obtain ⟨Ao16, co16, eo16⟩ := Kd.V_slice HO201.out; subst eo16) | ((with_reducible refine gate_callee (f := 5) rfl ?_); refine goesL_ (some 28) rfl rfl Try.func5 (by kernel_rfl) rfl #[.slice A1 l1.length c1] rfl (by (try simp only [List.map_toArray, List.map_cons, List.map_nil]); first | done | rfl | (simp only [List.length_drop, List.length_take]; rfl)) ?_; (with_reducible refine (spec_FlagsOf.calls _ _ l1 t203 _ ?side1 ?side2 A7.out).mono ?_); (case side1 => exact Kd.C_below HR1.out (by repeat (first | (with_reducible first | exact HB.out | apply below_alloc | apply pw_below_drewN | apply below_drew1 | refine below_set ?_ GE202.out) | exact HB.out))); (case side2 => exact HC1.out); rintro e w17 ⟨v204, rfl, ho0, hb⟩; refine ⟨_, rfl, ?_⟩; have n0_ := Aside0.mk (Kd.R_below (by (with_reducible repeat (first | apply Kd.R_alloc | apply Kd.R_drewN | apply Kd.R_drew)); exact (Kd.R_mono (Kd.R_far (p := ⟨gb202, 1, none⟩) (Kd.R_far (p := ⟨gb202, 0, none⟩) (Kd.R_types HO198.out BK202.out (by decide)) (fun _ hk => hk.2) (.slice Ao14 t196.length co14)) (fun _ hk => hk.2) (.slice Ao16 t199.length co16)) (fun _ h_ => h_.1))) hb); have n1_ := Aside0.mk (Kd.V_elder' (by (with_reducible repeat (first | apply Kd.V_alloc | apply Kd.V_drewN | apply Kd.V_drew)); exact (Kd.V_mono (Kd.V_far (p := ⟨gb202, 1, none⟩) (Kd.V_far (p := ⟨gb202, 0, none⟩) (Kd.V_mono HO201.out (fun k_ hk => (⟨hk, hk.2⟩ : _ ∧ k_ ≠ gb202))) (fun _ hk => hk.2) (.slice Ao14 t196.length co14)) (fun _ hk => hk.2) (.slice Ao16 t199.length co16)) (fun _ h_ => h_.1))) (Kd.R_base ho0) hb); have n2_ := Aside0.mk (Kd.R_lower ho0 (below_size (by repeat (first | (with_reducible first | exact HB.out | apply below_alloc | apply pw_below_drewN | apply below_drew1 | refine below_set ?_ GE202.out) | exact HB.out)))); have n3_ := Aside0.mk (blk_below (g := gb202) (o := .cells #[.slice Ao14 t196.length co14, .slice Ao16 t199.length co16] 25 (0, 0)) (by (with_reducible repeat (first | refine blk_drewN ?_ _ | refine blk_drew ?_ | refine blk_alloc ?_ _)); refine blk_put (cs := #[.slice Ao14 t196.length co14, .slice none 0 0]) ?_ 1 _ rfl; (with_reducible repeat (first | refine blk_drewN ?_ _ | refine blk_drew ?_ | refine blk_alloc ?_ _)); refine blk_put (cs := #[.slice none 0 0, .slice none 0 0]) ?_ 0 _ rfl; (with_reducible repeat (first | refine blk_drewN ?_ _ | refine blk_drew ?_ | refine blk_alloc ?_ _)); exact BK202.out) hb); have n4_ := Aside0.mk (below_step (by repeat (first | (with_reducible first | exact HB.out | apply below_alloc | apply pw_below_drewN | apply below_drew1 | refine below_set ?_ GE202.out) | exact HB.out)) hb); clear HO198; clear HO201; clear BK202; clear HB; have HO198 := n0_; have HO201 := n1_; have HO205 := n2_; have BK202 := n3_; have HB := n4_; clear n0_ n1_ n2_ n3_ n4_; (try clear hb); (try clear hb2); (try clear hk); (try clear hi); (try clear ho0); have hcz18_0 : w17.cell? ⟨gb202, 0, none⟩ = some (.slice Ao14 t196.length co14) := (blk_cell BK202.out 0).trans rfl; have hcz18_1 : w17.cell? ⟨gb202, 1, none⟩ = some (.slice Ao16 t199.length co16) := (blk_cell BK202.out 1).trans rfl; have hfz18_0 := blk_frozen BK202.out 0; have hfz18_1 := blk_frozen BK202.out 1; obtain ⟨Ao19, co19, eo19⟩ := Kd.R_slice HO205.out; subst eo19) | ((with_reducible refine gate_callee (f := 6) rfl ?_); refine goesL_ (some 32) rfl rfl Try.func6 (by kernel_rfl) rfl #[.agg #[.slice Ao14 t196.length co14, .slice Ao16 t199.length co16], .slice Ao19 t203.length co19] rfl (by (try simp only [List.map_toArray, List.map_cons, List.map_nil]); first | done | rfl | (simp only [List.length_drop, List.length_take]; rfl)) ?_; (with_reducible refine (impl_DeviceCrash.calls kj2 _ _ t196 _ _ t199 _ _ t203 t206 t209 t212 _ ?side1 ?side2 ?side3 ?side4 ?side5 ?side6 A8.out).mono ?_); (case side1 => repeat (first | exact (Kd.R_reads' HO198.out).2.2 | (with_reducible refine Kd.C_alloc ?_ _) | (with_reducible refine Kd.C_drewN ?_ _) | (with_reducible refine Kd.C_drew ?_))); (case side2 => exact (Kd.R_reads' HO198.out).2.1); (case side3 => repeat (first | exact (Kd.V_reads' HO201.out).2.2 | (with_reducible refine Kd.C_alloc ?_ _) | (with_reducible refine Kd.C_drewN ?_ _) | (with_reducible refine Kd.C_drew ?_))); (case side4 => exact (Kd.V_reads' HO201.out).2.1); (case side5 => repeat (first | exact (Kd.R_reads' HO205.out).2.2 | (with_reducible refine Kd.C_alloc ?_ _) | (with_reducible refine Kd.C_drewN ?_ _) | (with_reducible refine Kd.C_drew ?_))); (case side6 => exact (Kd.R_reads' HO205.out).2.1); rintro e w20 ⟨v207, v210, rfl, ho0, ho1, hb⟩; refine ⟨_, rfl, ?_⟩; have n0_ := Aside0.mk (Kd.R_elder' (by (with_reducible repeat (first | apply Kd.R_alloc | apply Kd.R_drewN | apply Kd.R_drew)); exact HO198.out) (Kd.R_base ho0) hb); have n1_ := Aside0.mk (Kd.V_mono (Kd.V_told (Kd.V_told (Kd.V_old (by (with_reducible repeat (first | apply Kd.V_alloc | apply Kd.V_drewN | apply Kd.V_drew)); exact HO201.out) hb) (Kd.R_base ho0)) (Kd.S_base ho1)) (fun _ h_ => h_.1)); have n2_ := Aside0.mk (Kd.R_below (by (with_reducible repeat (first | apply Kd.R_alloc | apply Kd.R_drewN | apply Kd.R_drew)); exact HO205.out) hb); have n3_ := Aside0.mk (Kd.R_lower (Kd.R_new' ho0 (Kd.R_lt (by (with_reducible repeat (first | apply Kd.R_alloc | apply Kd.R_drewN | apply Kd.R_drew)); exact HO198.out))) (below_size (by repeat (first | (with_reducible first | exact HB.out | apply below_alloc | apply pw_below_drewN | apply below_drew1 | refine below_set ?_ GE202.out) | exact HB.out)))); have n4_ := Aside0.mk (Kd.S_lower (Kd.S_new' ho1 (Kd.R_lt (by (with_reducible repeat (first | apply Kd.R_alloc | apply Kd.R_drewN | apply Kd.R_drew)); exact HO198.out))) (below_size (by repeat (first | (with_reducible first | exact HB.out | apply below_alloc | apply pw_below_drewN | apply below_drew1 | refine below_set ?_ GE202.out) | exact HB.out)))); have n5_ := Aside0.mk (blk_below (g := gb202) (o := .cells #[.slice Ao14 t196.length co14, .slice Ao16 t199.length co16] 25 (0, 0)) (by (with_reducible repeat (first | refine blk_drewN ?_ _ | refine blk_drew ?_ | refine blk_alloc ?_ _)); exact BK202.out) hb); have n6_ := Aside0.mk (below_step (by repeat (first | (with_reducible first | exact HB.out | apply below_alloc | apply pw_below_drewN | apply below_drew1 | refine below_set ?_ GE202.out) | exact HB.out)) hb); clear HO198; clear HO201; clear HO205; clear BK202; clear HB; have HO198 := n0_; have HO201 := n1_; have HO205 := n2_; have HO208 := n3_; have HO211 := n4_; have BK202 := n5_; have HB := n6_; clear n0_ n1_ n2_ n3_ n4_ n5_ n6_; (try clear hb); (try clear hb2); (try clear hk); (try clear hi); (try clear ho0); (try clear ho1)) | ((with_reducible refine gate_dst (N := 7) rfl ?_); (try (refine gate_guard (by rfl) ?_; dsimp only)); refine box_event ?hg (N := 7) ?hd (cs := #[.slice none 0 0, .slice none 0 0]) (t := 25) ?hr ?_; (case hd => rfl); (case hg => rfl); (case hr => first | (go_simp; done) | (go_simp; rfl)); intro gb213 hg w21 hbox hb; have n0_ := Aside0.mk (Kd.R_below (by (with_reducible repeat (first | apply Kd.R_alloc | apply Kd.R_drewN | apply Kd.R_drew)); exact HO198.out) hb); have n1_ := Aside0.mk (Kd.V_below (Kd.V_elderB (by (with_reducible repeat (first | apply Kd.V_alloc | apply Kd.V_drewN | apply Kd.V_drew)); exact HO201.out) gb213 (Nat.le_of_eq hg.symm)) hb); have n2_ := Aside0.mk (Kd.R_below (by (with_reducible repeat (first | apply Kd.R_alloc | apply Kd.R_drewN | apply Kd.R_drew)); exact HO205.out) hb); have n3_ := Aside0.mk (Kd.R_below (by (with_reducible repeat (first | apply Kd.R_alloc | apply Kd.R_drewN | apply Kd.R_drew)); exact HO208.out) hb); have n4_ := Aside0.mk (Kd.S_below (by (with_reducible repeat (first | apply Kd.S_alloc | apply Kd.S_drewN | apply Kd.S_drew)); exact HO211.out) hb); have n5_ := Aside0.mk (blk_below (g := gb202) (o := .cells #[.slice Ao14 t196.length co14, .slice Ao16 t199.length co16] 25 (0, 0)) (by (with_reducible repeat (first | refine blk_drewN ?_ _ | refine blk_drew ?_ | refine blk_alloc ?_ _)); exact BK202.out) hb); have n6_ := Aside0.mk (below_step (by repeat (first | (with_reducible first | exact HB.out | apply below_alloc | apply pw_below_drewN | apply below_drew1 | refine below_set ?_ GE202.out) | exact HB.out)) hb); have n7_ := Aside0.mk (hbox); have n8_ := Aside0.mk ((by rw [hg]; exact (below_size (by repeat (first | (with_reducible first | exact HB.out | apply below_alloc | apply pw_below_drewN | apply below_drew1 | refine below_set ?_ GE202.out) | exact HB.out))) : w.heap.size ≤ gb213)); have n9_ := Aside0.mk ((by rw [hg]; exact (below_size (by repeat (first | (with_reducible first | exact HB.out | apply below_alloc | apply pw_below_drewN | apply below_drew1 | refine below_set ?_ GE202.out) | exact HB.out))) : w.heap.size ≤ gb213)); have n10_ := Aside0.mk ((by rw [hg]; exact Nat.ne_of_lt (blk_lt (g := gb202) (o := .cells #[.slice Ao14 t196.length co14, .slice Ao16 t199.length co16] 25 (0, 0)) (by (with_reducible repeat (first | refine blk_drewN ?_ _ | refine blk_drew ?_ | refine blk_alloc ?_ _)); exact BK202.out)) : gb202 ≠ gb213)); have n11_ := Aside0.mk ((by rw [hg]; exact Nat.ne_of_gt (blk_lt (g := gb202) (o := .cells #[.slice Ao14 t196.length co14, .slice Ao16 t199.length co16] 25 (0, 0)) (by (with_reducible repeat (first | refine blk_drewN ?_ _ | refine blk_drew ?_ | refine blk_alloc ?_ _)); exact BK202.out)) : gb213 ≠ gb202)); clear HO198; clear HO201; clear HO205; clear HO208; clear HO211; clear BK202; clear HB; have HO198 := n0_; have HO201 := n1_; have HO205 := n2_; have HO208 := n3_; have HO211 := n4_; have BK202 := n5_; have HB := n6_; have BK213 := n7_; have GW213 := n8_; have GE213 := n9_; have NB202_213 := n10_; have NB213_202 := n11_; clear n0_ n1_ n2_ n3_ n4_ n5_ n6_ n7_ n8_ n9_ n10_ n11_; clear hb hbox hg; obtain ⟨Ao22, co22, eo22⟩ := Kd.R_slice HO208.out; subst eo22; have hnb23 := NB213_202.out; have hnc23 := NB202_213.out; have hcz24_0 : w21.cell? ⟨gb213, 0, none⟩ = some (.slice none 0 0) := (blk_cell BK213.out 0).trans rfl; have hcz24_1 : w21.cell? ⟨gb213, 1, none⟩ = some (.slice none 0 0) := (blk_cell BK213.out 1).trans rfl; have hfz24_0 := blk_frozen BK213.out 0; have hfz24_1 := blk_frozen BK213.out 1; obtain ⟨Ao25, co25, eo25⟩ := Kd.S_slice HO211.out; subst eo25; have hcz26_0 : w21.cell? ⟨gb202, 0, none⟩ = some (.slice Ao14 t196.length co14) := (blk_cell BK202.out 0).trans rfl; have hcz26_1 : w21.cell? ⟨gb202, 1, none⟩ = some (.slice Ao16 t199.length co16) := (blk_cell BK202.out 1).trans rfl; have hfz26_0 := blk_frozen BK202.out 0; have hfz26_1 := blk_frozen BK202.out 1) | ((with_reducible refine gate_callee (f := 7) rfl ?_); refine goesL_ (some 38) rfl rfl Try.func7 (by kernel_rfl) rfl #[.agg #[.slice Ao14 t196.length co14, .slice Ao16 t199.length co16], .slice Ao19 t203.length co19] rfl (by (try simp only [List.map_toArray, List.map_cons, List.map_nil]); first | done | rfl | (simp only [List.length_drop, List.length_take]; rfl)) ?_; (with_reducible refine (spec_DeviceCrash.calls kj2 _ _ t196 _ _ t199 _ _ t203 t214 t217 t220 _ ?side1 ?side2 ?side3 ?side4 ?side5 ?side6 A9.out).mono ?_); (case side1 => refine (Kd.R_reads' (e := 5) (base := w.heap.size) (ok := fun k_ => (True ∧ some k_ ≠ (.slice Ao22 t206.length co22 : Value).ownBlock)) (n := t196.length) (c := co14) ?_).2.2; exact (by (with_reducible repeat (first | apply Kd.R_alloc | apply Kd.R_drewN | apply Kd.R_drew)); exact (Kd.R_mono (Kd.R_far (p := ⟨gb213, 1, none⟩) (Kd.R_far (p := ⟨gb213, 0, none⟩) (Kd.R_types HO198.out BK213.out (by decide)) (fun _ hk => hk.2) (.slice Ao22 t206.length co22)) (fun _ hk => hk.2) (.slice Ao25 t209.length co25)) (fun _ h_ => h_.1)))); (case side2 => exact (Kd.R_reads' HO198.out).2.1); (case side3 => refine (Kd.V_reads' (e := 32) (base := w.heap.size) (ok := fun k_ => (((((some k_ ≠ (.slice Ao14 t196.length co14 : Value).ownBlock ∧ k_ ≠ gb202) ∧ some k_ ≠ (.slice Ao19 t203.length co19 : Value).ownBlock) ∧ some k_ ≠ (.slice Ao22 t206.length co22 : Value).ownBlock) ∧ some k_ ≠ (.slice Ao25 t209.length co25 : Value).ownBlock) ∧ k_ ≠ gb213)) (n := t199.length) (c := co16) ?_).2.2; exact (by (with_reducible repeat (first | apply Kd.V_alloc | apply Kd.V_drewN | apply Kd.V_drew)); exact (Kd.V_mono (Kd.V_far (p := ⟨gb213, 1, none⟩) (Kd.V_far (p := ⟨gb213, 0, none⟩) (Kd.V_mono HO201.out (fun k_ hk => (⟨hk, hk.2⟩ : _ ∧ k_ ≠ gb213))) (fun _ hk => hk.2) (.slice Ao22 t206.length co22)) (fun _ hk => hk.2) (.slice Ao25 t209.length co25)) (fun _ h_ => h_.1)))); (case side4 => exact (Kd.V_reads' HO201.out).2.1); (case side5 => refine (Kd.R_reads' (e := 4) (base := w.heap.size) (ok := fun k_ => True) (n := t203.length) (c := co19) ?_).2.2; exact (by (with_reducible repeat (first | apply Kd.R_alloc | apply Kd.R_drewN | apply Kd.R_drew)); exact (Kd.R_mono (Kd.R_far (p := ⟨gb213, 1, none⟩) (Kd.R_far (p := ⟨gb213, 0, none⟩) (Kd.R_types HO205.out BK213.out (by decide)) (fun _ hk => hk.2) (.slice Ao22 t206.length co22)) (fun _ hk => hk.2) (.slice Ao25 t209.length co25)) (fun _ h_ => h_.1)))); (case side6 => exact (Kd.R_reads' HO205.out).2.1); rintro e w27 ⟨v215, v218, rfl, ho0, ho1, hb⟩; refine ⟨_, rfl, ?_⟩; have n0_ := Aside0.mk (Kd.R_elder' (by (with_reducible repeat (first | apply Kd.R_alloc | apply Kd.R_drewN | apply Kd.R_drew)); exact (Kd.R_mono (Kd.R_far (p := ⟨gb213, 1, none⟩) (Kd.R_far (p := ⟨gb213, 0, none⟩) (Kd.R_types HO198.out BK213.out (by decide)) (fun _ hk => hk.2) (.slice Ao22 t206.length co22)) (fun _ hk => hk.2) (.slice Ao25 t209.length co25)) (fun _ h_ => h_.1))) (Kd.R_base ho0) hb); have n1_ := Aside0.mk (Kd.V_mono (Kd.V_told (Kd.V_told (Kd.V_old (by (with_reducible repeat (first | apply Kd.V_alloc | apply Kd.V_drewN | apply Kd.V_drew)); exact (Kd.V_mono (Kd.V_far (p := ⟨gb213, 1, none⟩) (Kd.V_far (p := ⟨gb213, 0, none⟩) (Kd.V_mono HO201.out (fun k_ hk => (⟨hk, hk.2⟩ : _ ∧ k_ ≠ gb213))) (fun _ hk => hk.2) (.slice Ao22 t206.length co22)) (fun _ hk => hk.2) (.slice Ao25 t209.length co25)) (fun _ h_ => h_.1))) hb) (Kd.R_base ho0)) (Kd.S_base ho1)) (fun _ h_ => h_.1)); have n2_ := Aside0.mk (Kd.R_below (by (with_reducible repeat (first | apply Kd.R_alloc | apply Kd.R_drewN | apply Kd.R_drew)); exact (Kd.R_mono (Kd.R_far (p := ⟨gb213, 1, none⟩) (Kd.R_far (p := ⟨gb213, 0, none⟩) (Kd.R_types HO205.out BK213.out (by decide)) (fun _ hk => hk.2) (.slice Ao22 t206.length co22)) (fun _ hk => hk.2) (.slice Ao25 t209.length co25)) (fun _ h_ => h_.1))) hb); have n3_ := Aside0.mk (Kd.R_elder' (by (with_reducible repeat (first | apply Kd.R_alloc | apply Kd.R_drewN | apply Kd.R_drew)); exact (Kd.R_mono (Kd.R_far (p := ⟨gb213, 1, none⟩) (Kd.R_far (p := ⟨gb213, 0, none⟩) (Kd.R_types HO208.out BK213.out (by decide)) (fun _ hk => hk.2) (.slice Ao22 t206.length co22)) (fun _ hk => hk.2) (.slice Ao25 t209.length co25)) (fun _ h_ => h_.1))) (Kd.R_base ho0) hb); have n4_ := Aside0.mk (Kd.S_mono (Kd.S_told (Kd.S_told (Kd.S_old (by (with_reducible repeat (first | apply Kd.S_alloc | apply Kd.S_drewN | apply Kd.S_drew)); exact (Kd.S_mono (Kd.S_far (p := ⟨gb213, 1, none⟩) (Kd.S_far (p := ⟨gb213, 0, none⟩) (Kd.S_types HO211.out BK213.out (by decide)) (fun _ hk => hk.2) (.slice Ao22 t206.length co22)) (fun _ hk => hk.2) (.slice Ao25 t209.length co25)) (fun _ h_ => h_.1))) hb) (Kd.R_base ho0)) (Kd.S_base ho1)) (fun _ h_ => h_.1)); have n5_ := Aside0.mk (Kd.R_lower (Kd.R_new' (Kd.R_new' ho0 (Kd.R_lt (by (with_reducible repeat (first | apply Kd.R_alloc | apply Kd.R_drewN | apply Kd.R_drew)); exact (Kd.R_mono (Kd.R_far (p := ⟨gb213, 1, none⟩) (Kd.R_far (p := ⟨gb213, 0, none⟩) (Kd.R_types HO198.out BK213.out (by decide)) (fun _ hk => hk.2) (.slice Ao22 t206.length co22)) (fun _ hk => hk.2) (.slice Ao25 t209.length co25)) (fun _ h_ => h_.1))))) (Kd.R_lt (by (with_reducible repeat (first | apply Kd.R_alloc | apply Kd.R_drewN | apply Kd.R_drew)); exact (Kd.R_mono (Kd.R_far (p := ⟨gb213, 1, none⟩) (Kd.R_far (p := ⟨gb213, 0, none⟩) (Kd.R_types HO208.out BK213.out (by decide)) (fun _ hk => hk.2) (.slice Ao22 t206.length co22)) (fun _ hk => hk.2) (.slice Ao25 t209.length co25)) (fun _ h_ => h_.1))))) (below_size (by repeat (first | (with_reducible first | exact HB.out | apply below_alloc | apply pw_below_drewN | apply below_drew1 | refine below_set ?_ GE202.out | refine below_set ?_ GE213.out) | exact HB.out)))); have n6_ := Aside0.mk (Kd.S_lower (Kd.S_new' (Kd.S_new' (Kd.S_new' ho1 (Kd.R_lt (by (with_reducible repeat (first | apply Kd.R_alloc | apply Kd.R_drewN | apply Kd.R_drew)); exact (Kd.R_mono (Kd.R_far (p := ⟨gb213, 1, none⟩) (Kd.R_far (p := ⟨gb213, 0, none⟩) (Kd.R_types HO198.out BK213.out (by decide)) (fun _ hk => hk.2) (.slice Ao22 t206.length co22)) (fun _ hk => hk.2) (.slice Ao25 t209.length co25)) (fun _ h_ => h_.1))))) (Kd.R_lt (by (with_reducible repeat (first | apply Kd.R_alloc | apply Kd.R_drewN | apply Kd.R_drew)); exact (Kd.R_mono (Kd.R_far (p := ⟨gb213, 1, none⟩) (Kd.R_far (p := ⟨gb213, 0, none⟩) (Kd.R_types HO208.out BK213.out (by decide)) (fun _ hk => hk.2) (.slice Ao22 t206.length co22)) (fun _ hk => hk.2) (.slice Ao25 t209.length co25)) (fun _ h_ => h_.1))))) (Kd.S_lt (by (with_reducible repeat (first | apply Kd.S_alloc | apply Kd.S_drewN | apply Kd.S_drew)); exact (Kd.S_mono (Kd.S_far (p := ⟨gb213, 1, none⟩) (Kd.S_far (p := ⟨gb213, 0, none⟩) (Kd.S_types HO211.out BK213.out (by decide)) (fun _ hk => hk.2) (.slice Ao22 t206.length co22)) (fun _ hk => hk.2) (.slice Ao25 t209.length co25)) (fun _ h_ => h_.1))))) (below_size (by repeat (first | (with_reducible first | exact HB.out | apply below_alloc | apply pw_below_drewN | apply below_drew1 | refine below_set ?_ GE202.out | refine below_set ?_ GE213.out) | exact HB.out)))); have n7_ := Aside0.mk (blk_below (g := gb202) (o := .cells #[.slice Ao14 t196.length co14, .slice Ao16 t199.length co16] 25 (0, 0)) (by (with_reducible repeat (first | refine blk_drewN ?_ _ | refine blk_drew ?_ | refine blk_alloc ?_ _)); refine blk_far ?_ NB202_213.out _; (with_reducible repeat (first | refine blk_drewN ?_ _ | refine blk_drew ?_ | refine blk_alloc ?_ _)); refine blk_far ?_ NB202_213.out _; (with_reducible repeat (first | refine blk_drewN ?_ _ | refine blk_drew ?_ | refine blk_alloc ?_ _)); exact BK202.out) hb); have n8_ := Aside0.mk (blk_below (g := gb213) (o := .cells #[.slice Ao22 t206.length co22, .slice Ao25 t209.length co25] 25 (0, 0)) (by (with_reducible repeat (first | refine blk_drewN ?_ _ | refine blk_drew ?_ | refine blk_alloc ?_ _)); refine blk_put (cs := #[.slice Ao22 t206.length co22, .slice none 0 0]) ?_ 1 _ rfl; (with_reducible repeat (first | refine blk_drewN ?_ _ | refine blk_drew ?_ | refine blk_alloc ?_ _)); refine blk_put (cs := #[.slice none 0 0, .slice none 0 0]) ?_ 0 _ rfl; (with_reducible repeat (first | refine blk_drewN ?_ _ | refine blk_drew ?_ | refine blk_alloc ?_ _)); exact BK213.out) hb); have n9_ := Aside0.mk (below_step (by repeat (first | (with_reducible first | exact HB.out | apply below_alloc | apply pw_below_drewN | apply below_drew1 | refine below_set ?_ GE202.out | refine below_set ?_ GE213.out) | exact HB.out)) hb); clear HO198; clear HO201; clear HO205; clear HO208; clear HO211; clear BK202; clear BK213; clear HB; have HO198 := n0_; have HO201 := n1_; have HO205 := n2_; have HO208 := n3_; have HO211 := n4_; have HO216 := n5_; have HO219 := n6_; have BK202 := n7_; have BK213 := n8_; have HB := n9_; clear n0_ n1_ n2_ n3_ n4_ n5_ n6_ n7_ n8_ n9_; (try clear hb); (try clear hb2); (try clear hk); (try clear hi); (try clear ho0); (try clear ho1)) | ((with_reducible refine gate_dst (N := 9) rfl ?_); (try (refine gate_guard (by rfl) ?_; dsimp only)); refine box_event ?hg (N := 9) ?hd (cs := #[.slice none 0 0, .slice none 0 0]) (t := 25) ?hr ?_; (case hd => rfl); (case hg => rfl); (case hr => first | (go_simp; done) | (go_simp; rfl)); intro gb221 hg w28 hbox hb; have n0_ := Aside0.mk (Kd.R_below (by (with_reducible repeat (first | apply Kd.R_alloc | apply Kd.R_drewN | apply Kd.R_drew)); exact HO198.out) hb); have n1_ := Aside0.mk (Kd.V_below (Kd.V_elderB (by (with_reducible repeat (first | apply Kd.V_alloc | apply Kd.V_drewN | apply Kd.V_drew)); exact HO201.out) gb221 (Nat.le_of_eq hg.symm)) hb); have n2_ := Aside0.mk (Kd.R_below (by (with_reducible repeat (first | apply Kd.R_alloc | apply Kd.R_drewN | apply Kd.R_drew)); exact HO205.out) hb); have n3_ := Aside0.mk (Kd.R_below (by (with_reducible repeat (first | apply Kd.R_alloc | apply Kd.R_drewN | apply Kd.R_drew)); exact HO208.out) hb); have n4_ := Aside0.mk (Kd.S_below (by (with_reducible repeat (first | apply Kd.S_alloc | apply Kd.S_drewN | apply Kd.S_drew)); exact HO211.out) hb); have n5_ := Aside0.mk (Kd.R_below (by (with_reducible repeat (first | apply Kd.R_alloc | apply Kd.R_drewN | apply Kd.R_drew)); exact HO216.out) hb); have n6_ := Aside0.mk (Kd.S_below (by (with_reducible repeat (first | apply Kd.S_alloc | apply Kd.S_drewN | apply Kd.S_drew)); exact HO219.out) hb); have n7_ := Aside0.mk (blk_below (g := gb202) (o := .cells #[.slice Ao14 t196.length co14, .slice Ao16 t199.length co16] 25 (0, 0)) (by (with_reducible repeat (first | refine blk_drewN ?_ _ | refine blk_drew ?_ | refine blk_alloc ?_ _)); exact BK202.out) hb); have n8_ := Aside0.mk (blk_below (g := gb213) (o := .cells #[.slice Ao22 t206.length co22, .slice Ao25 t209.length co25] 25 (0, 0)) (by (with_reducible repeat (first | refine blk_drewN ?_ _ | refine blk_drew ?_ | refine blk_alloc ?_ _)); exact BK213.out) hb); have n9_ := Aside0.mk (below_step (by repeat (first | (with_reducible first | exact HB.out | apply below_alloc | apply pw_below_drewN | apply below_drew1 | refine below_set ?_ GE202.out | refine below_set ?_ GE213.out) | exact HB.out)) hb); have n10_ := Aside0.mk (hbox); have n11_ := Aside0.mk ((by rw [hg]; exact (below_size (by repeat (first | (with_reducible first | exact HB.out | apply below_alloc | apply pw_below_drewN | apply below_drew1 | refine below_set ?_ GE202.out | refine below_set ?_ GE213.out) | exact HB.out))) : w.heap.size ≤ gb221)); have n12_ := Aside0.mk ((by rw [hg]; exact (below_size (by repeat (first | (with_reducible first | exact HB.out | apply below_alloc | apply pw_below_drewN | apply below_drew1 | refine below_set ?_ GE202.out | refine below_set ?_ GE213.out) | exact HB.out))) : w.heap.size ≤ gb221)); have n13_ := Aside0.mk ((by rw [hg]; exact Nat.ne_of_lt (blk_lt (g := gb202) (o := .cells #[.slice Ao14 t196.length co14, .slice Ao16 t199.length co16] 25 (0, 0)) (by (with_reducible repeat (first | refine blk_drewN ?_ _ | refine blk_drew ?_ | refine blk_alloc ?_ _)); exact BK202.out)) : gb202 ≠ gb221)); have n14_ := Aside0.mk ((by rw [hg]; exact Nat.ne_of_gt (blk_lt (g := gb202) (o := .cells #[.slice Ao14 t196.length co14, .slice Ao16 t199.length co16] 25 (0, 0)) (by (with_reducible repeat (first | refine blk_drewN ?_ _ | refine blk_drew ?_ | refine blk_alloc ?_ _)); exact BK202.out)) : gb221 ≠ gb202)); have n15_ := Aside0.mk ((by rw [hg]; exact Nat.ne_of_lt (blk_lt (g := gb213) (o := .cells #[.slice Ao22 t206.length co22, .slice Ao25 t209.length co25] 25 (0, 0)) (by (with_reducible repeat (first | refine blk_drewN ?_ _ | refine blk_drew ?_ | refine blk_alloc ?_ _)); exact BK213.out)) : gb213 ≠ gb221)); have n16_ := Aside0.mk ((by rw [hg]; exact Nat.ne_of_gt (blk_lt (g := gb213) (o := .cells #[.slice Ao22 t206.length co22, .slice Ao25 t209.length co25] 25 (0, 0)) (by (with_reducible repeat (first | refine blk_drewN ?_ _ | refine blk_drew ?_ | refine blk_alloc ?_ _)); exact BK213.out)) : gb221 ≠ gb213)); clear HO198; clear HO201; clear HO205; clear HO208; clear HO211; clear HO216; clear HO219; clear BK202; clear BK213; clear HB; have HO198 := n0_; have HO201 := n1_; have HO205 := n2_; have HO208 := n3_; have HO211 := n4_; have HO216 := n5_; have HO219 := n6_; have BK202 := n7_; have BK213 := n8_; have HB := n9_; have BK221 := n10_; have GW221 := n11_; have GE221 := n12_; have NB202_221 := n13_; have NB221_202 := n14_; have NB213_221 := n15_; have NB221_213 := n16_; clear n0_ n1_ n2_ n3_ n4_ n5_ n6_ n7_ n8_ n9_ n10_ n11_ n12_ n13_ n14_ n15_ n16_; clear hb hbox hg; obtain ⟨Ao29, co29, eo29⟩ := Kd.R_slice HO216.out; subst eo29; have hnb30 := NB221_202.out; have hnc30 := NB202_221.out; have hnb31 := NB221_213.out; have hnc31 := NB213_221.out; have hcz32_0 : w28.cell? ⟨gb221, 0, none⟩ = some (.slice none 0 0) := (blk_cell BK221.out 0).trans rfl; have hcz32_1 : w28.cell? ⟨gb221, 1, none⟩ = some (.slice none 0 0) := (blk_cell BK221.out 1).trans rfl; have hfz32_0 := blk_frozen BK221.out 0; have hfz32_1 := blk_frozen BK221.out 1; obtain ⟨Ao33, co33, eo33⟩ := Kd.S_slice HO219.out; subst eo33; have hcz34_0 : w28.cell? ⟨gb202, 0, none⟩ = some (.slice Ao14 t196.length co14) := (blk_cell BK202.out 0).trans rfl; have hcz34_1 : w28.cell? ⟨gb202, 1, none⟩ = some (.slice Ao16 t199.length co16) := (blk_cell BK202.out 1).trans rfl; have hfz34_0 := blk_frozen BK202.out 0; have hfz34_1 := blk_frozen BK202.out 1) | ((with_reducible refine gate_callee (f := 6) rfl ?_); refine goesL_ (some 43) rfl rfl Try.func6 (by kernel_rfl) rfl #[.agg #[.slice Ao14 t196.length co14, .slice Ao16 t199.length co16], .slice none 0 0] rfl (by (try simp only [List.map_toArray, List.map_cons, List.map_nil]); first | done | rfl | (simp only [List.length_drop, List.length_take]; rfl)) ?_; (refine (impl_DeviceCrash.calls kj2 _ _ t196 _ _ t199 _ _ ([] : List Bool) t222 t225 t228 _ ?side1 ?side2 ?side3 ?side4 ?side5 ?side6 A10.out).mono ?_); (case side1 => refine (Kd.R_reads' (e := 5) (base := w.heap.size) (ok := fun k_ => ((True ∧ some k_ ≠ (.slice Ao22 t206.length co22 : Value).ownBlock) ∧ some k_ ≠ (.slice Ao29 t214.length co29 : Value).ownBlock)) (n := t196.length) (c := co14) ?_).2.2; exact (by (with_reducible repeat (first | apply Kd.R_alloc | apply Kd.R_drewN | apply Kd.R_drew)); exact (Kd.R_mono (Kd.R_far (p := ⟨gb221, 1, none⟩) (Kd.R_far (p := ⟨gb221, 0, none⟩) (Kd.R_types HO198.out BK221.out (by decide)) (fun _ hk => hk.2) (.slice Ao29 t214.length co29)) (fun _ hk => hk.2) (.slice Ao33 t217.length co33)) (fun _ h_ => h_.1)))); (case side2 => exact (Kd.R_reads' HO198.out).2.1); (case side3 => refine (Kd.V_reads' (e := 32) (base := w.heap.size) (ok := fun k_ => ((((((((some k_ ≠ (.slice Ao14 t196.length co14 : Value).ownBlock ∧ k_ ≠ gb202) ∧ some k_ ≠ (.slice Ao19 t203.length co19 : Value).ownBlock) ∧ some k_ ≠ (.slice Ao22 t206.length co22 : Value).ownBlock) ∧ some k_ ≠ (.slice Ao25 t209.length co25 : Value).ownBlock) ∧ k_ ≠ gb213) ∧ some k_ ≠ (.slice Ao29 t214.length co29 : Value).ownBlock) ∧ some k_ ≠ (.slice Ao33 t217.length co33 : Value).ownBlock) ∧ k_ ≠ gb221)) (n := t199.length) (c := co16) ?_).2.2; exact (by (with_reducible repeat (first | apply Kd.V_alloc | apply Kd.V_drewN | apply Kd.V_drew)); exact (Kd.V_mono (Kd.V_far (p := ⟨gb221, 1, none⟩) (Kd.V_far (p := ⟨gb221, 0, none⟩) (Kd.V_mono HO201.out (fun k_ hk => (⟨hk, hk.2⟩ : _ ∧ k_ ≠ gb221))) (fun _ hk => hk.2) (.slice Ao29 t214.length co29)) (fun _ hk => hk.2) (.slice Ao33 t217.length co33)) (fun _ h_ => h_.1)))); (case side4 => exact (Kd.V_reads' HO201.out).2.1); (case side5 => exact Kd.C_nil _ _); (case side6 => exact Nat.le_refl _); rintro e w35 ⟨v223, v226, rfl, ho0, ho1, hb⟩; refine ⟨_, rfl, ?_⟩; have n0_ := Aside0.mk (Kd.R_elder' (by (with_reducible repeat (first | apply Kd.R_alloc | apply Kd.R_drewN | apply Kd.R_drew)); exact (Kd.R_mono (Kd.R_far (p := ⟨gb221, 1, none⟩) (Kd.R_far (p := ⟨gb221, 0, none⟩) (Kd.R_types HO198.out BK221.out (by decide)) (fun _ hk => hk.2) (.slice Ao29 t214.length co29)) (fun _ hk => hk.2) (.slice Ao33 t217.length co33)) (fun _ h_ => h_.1))) (Kd.R_base ho0) hb); have n1_ := Aside0.mk (Kd.V_mono (Kd.V_told (Kd.V_told (Kd.V_old (by (with_reducible repeat (first | apply Kd.V_alloc | apply Kd.V_drewN | apply Kd.V_drew)); exact (Kd.V_mono (Kd.V_far (p := ⟨gb221, 1, none⟩) (Kd.V_far (p := ⟨gb221, 0, none⟩) (Kd.V_mono HO201.out (fun k_ hk => (⟨hk, hk.2⟩ : _ ∧ k_ ≠ gb221))) (fun _ hk => hk.2) (.slice Ao29 t214.length co29)) (fun _ hk => hk.2) (.slice Ao33 t217.length co33)) (fun _ h_ => h_.1))) hb) (Kd.R_base ho0)) (Kd.S_base ho1)) (fun _ h_ => h_.1)); have n2_ := Aside0.mk (Kd.R_below (by (with_reducible repeat (first | apply Kd.R_alloc | apply Kd.R_drewN | apply Kd.R_drew)); exact (Kd.R_mono (Kd.R_far (p := ⟨gb221, 1, none⟩) (Kd.R_far (p := ⟨gb221, 0, none⟩) (Kd.R_types HO205.out BK221.out (by decide)) (fun _ hk => hk.2) (.slice Ao29 t214.length co29)) (fun _ hk => hk.2) (.slice Ao33 t217.length co33)) (fun _ h_ => h_.1))) hb); have n3_ := Aside0.mk (Kd.R_elder' (by (with_reducible repeat (first | apply Kd.R_alloc | apply Kd.R_drewN | apply Kd.R_drew)); exact (Kd.R_mono (Kd.R_far (p := ⟨gb221, 1, none⟩) (Kd.R_far (p := ⟨gb221, 0, none⟩) (Kd.R_types HO208.out BK221.out (by decide)) (fun _ hk => hk.2) (.slice Ao29 t214.length co29)) (fun _ hk => hk.2) (.slice Ao33 t217.length co33)) (fun _ h_ => h_.1))) (Kd.R_base ho0) hb); have n4_ := Aside0.mk (Kd.S_mono (Kd.S_told (Kd.S_told (Kd.S_old (by (with_reducible repeat (first | apply Kd.S_alloc | apply Kd.S_drewN | apply Kd.S_drew)); exact (Kd.S_mono (Kd.S_far (p := ⟨gb221, 1, none⟩) (Kd.S_far (p := ⟨gb221, 0, none⟩) (Kd.S_types HO211.out BK221.out (by decide)) (fun _ hk => hk.2) (.slice Ao29 t214.length co29)) (fun _ hk => hk.2) (.slice Ao33 t217.length co33)) (fun _ h_ => h_.1))) hb) (Kd.R_base ho0)) (Kd.S_base ho1)) (fun _ h_ => h_.1)); have n5_ := Aside0.mk (Kd.R_elder' (by (with_reducible repeat (first | apply Kd.R_alloc | apply Kd.R_drewN | apply Kd.R_drew)); exact (Kd.R_mono (Kd.R_far (p := ⟨gb221, 1, none⟩) (Kd.R_far (p := ⟨gb221, 0, none⟩) (Kd.R_types HO216.out BK221.out (by decide)) (fun _ hk => hk.2) (.slice Ao29 t214.length co29)) (fun _ hk => hk.2) (.slice Ao33 t217.length co33)) (fun _ h_ => h_.1))) (Kd.R_base ho0) hb); have n6_ := Aside0.mk (Kd.S_mono (Kd.S_told (Kd.S_told (Kd.S_old (by (with_reducible repeat (first | apply Kd.S_alloc | apply Kd.S_drewN | apply Kd.S_drew)); exact (Kd.S_mono (Kd.S_far (p := ⟨gb221, 1, none⟩) (Kd.S_far (p := ⟨gb221, 0, none⟩) (Kd.S_types HO219.out BK221.out (by decide)) (fun _ hk => hk.2) (.slice Ao29 t214.length co29)) (fun _ hk => hk.2) (.slice Ao33 t217.length co33)) (fun _ h_ => h_.1))) hb) (Kd.R_base ho0)) (Kd.S_base ho1)) (fun _ h_ => h_.1)); have n7_ := Aside0.mk (Kd.R_lower (Kd.R_new' (Kd.R_new' (Kd.R_new' ho0 (Kd.R_lt (by (with_reducible repeat (first | apply Kd.R_alloc | apply Kd.R_drewN | apply Kd.R_drew)); exact (Kd.R_mono (Kd.R_far (p := ⟨gb221, 1, none⟩) (Kd.R_far (p := ⟨gb221, 0, none⟩) (Kd.R_types HO198.out BK221.out (by decide)) (fun _ hk => hk.2) (.slice Ao29 t214.length co29)) (fun _ hk => hk.2) (.slice Ao33 t217.length co33)) (fun _ h_ => h_.1))))) (Kd.R_lt (by (with_reducible repeat (first | apply Kd.R_alloc | apply Kd.R_drewN | apply Kd.R_drew)); exact (Kd.R_mono (Kd.R_far (p := ⟨gb221, 1, none⟩) (Kd.R_far (p := ⟨gb221, 0, none⟩) (Kd.R_types HO208.out BK221.out (by decide)) (fun _ hk => hk.2) (.slice Ao29 t214.length co29)) (fun _ hk => hk.2) (.slice Ao33 t217.length co33)) (fun _ h_ => h_.1))))) (Kd.R_lt (by (with_reducible repeat (first | apply Kd.R_alloc | apply Kd.R_drewN | apply Kd.R_drew)); exact (Kd.R_mono (Kd.R_far (p := ⟨gb221, 1, none⟩) (Kd.R_far (p := ⟨gb221, 0, none⟩) (Kd.R_types HO216.out BK221.out (by decide)) (fun _ hk => hk.2) (.slice Ao29 t214.length co29)) (fun _ hk => hk.2) (.slice Ao33 t217.length co33)) (fun _ h_ => h_.1))))) (below_size (by repeat (first | (with_reducible first | exact HB.out | apply below_alloc | apply pw_below_drewN | apply below_drew1 | refine below_set ?_ GE202.out | refine below_set ?_ GE213.out | refine below_set ?_ GE221.out) | exact HB.out)))); have n8_ := Aside0.mk (Kd.S_lower (Kd.S_new' (Kd.S_new' (Kd.S_new' (Kd.S_new' (Kd.S_new' ho1 (Kd.R_lt (by (with_reducible repeat (first | apply Kd.R_alloc | apply Kd.R_drewN | apply Kd.R_drew)); exact (Kd.R_mono (Kd.R_far (p := ⟨gb221, 1, none⟩) (Kd.R_far (p := ⟨gb221, 0, none⟩) (Kd.R_types HO198.out BK221.out (by decide)) (fun _ hk => hk.2) (.slice Ao29 t214.length co29)) (fun _ hk => hk.2) (.slice Ao33 t217.length co33)) (fun _ h_ => h_.1))))) (Kd.R_lt (by (with_reducible repeat (first | apply Kd.R_alloc | apply Kd.R_drewN | apply Kd.R_drew)); exact (Kd.R_mono (Kd.R_far (p := ⟨gb221, 1, none⟩) (Kd.R_far (p := ⟨gb221, 0, none⟩) (Kd.R_types HO208.out BK221.out (by decide)) (fun _ hk => hk.2) (.slice Ao29 t214.length co29)) (fun _ hk => hk.2) (.slice Ao33 t217.length co33)) (fun _ h_ => h_.1))))) (Kd.S_lt (by (with_reducible repeat (first | apply Kd.S_alloc | apply Kd.S_drewN | apply Kd.S_drew)); exact (Kd.S_mono (Kd.S_far (p := ⟨gb221, 1, none⟩) (Kd.S_far (p := ⟨gb221, 0, none⟩) (Kd.S_types HO211.out BK221.out (by decide)) (fun _ hk => hk.2) (.slice Ao29 t214.length co29)) (fun _ hk => hk.2) (.slice Ao33 t217.length co33)) (fun _ h_ => h_.1))))) (Kd.R_lt (by (with_reducible repeat (first | apply Kd.R_alloc | apply Kd.R_drewN | apply Kd.R_drew)); exact (Kd.R_mono (Kd.R_far (p := ⟨gb221, 1, none⟩) (Kd.R_far (p := ⟨gb221, 0, none⟩) (Kd.R_types HO216.out BK221.out (by decide)) (fun _ hk => hk.2) (.slice Ao29 t214.length co29)) (fun _ hk => hk.2) (.slice Ao33 t217.length co33)) (fun _ h_ => h_.1))))) (Kd.S_lt (by (with_reducible repeat (first | apply Kd.S_alloc | apply Kd.S_drewN | apply Kd.S_drew)); exact (Kd.S_mono (Kd.S_far (p := ⟨gb221, 1, none⟩) (Kd.S_far (p := ⟨gb221, 0, none⟩) (Kd.S_types HO219.out BK221.out (by decide)) (fun _ hk => hk.2) (.slice Ao29 t214.length co29)) (fun _ hk => hk.2) (.slice Ao33 t217.length co33)) (fun _ h_ => h_.1))))) (below_size (by repeat (first | (with_reducible first | exact HB.out | apply below_alloc | apply pw_below_drewN | apply below_drew1 | refine below_set ?_ GE202.out | refine below_set ?_ GE213.out | refine below_set ?_ GE221.out) | exact HB.out)))); have n9_ := Aside0.mk (blk_below (g := gb202) (o := .cells #[.slice Ao14 t196.length co14, .slice Ao16 t199.length co16] 25 (0, 0)) (by (with_reducible repeat (first | refine blk_drewN ?_ _ | refine blk_drew ?_ | refine blk_alloc ?_ _)); refine blk_far ?_ NB202_221.out _; (with_reducible repeat (first | refine blk_drewN ?_ _ | refine blk_drew ?_ | refine blk_alloc ?_ _)); refine blk_far ?_ NB202_221.out _; (with_reducible repeat (first | refine blk_drewN ?_ _ | refine blk_drew ?_ | refine blk_alloc ?_ _)); exact BK202.out) hb); have n10_ := Aside0.mk (blk_below (g := gb213) (o := .cells #[.slice Ao22 t206.length co22, .slice Ao25 t209.length co25] 25 (0, 0)) (by (with_reducible repeat (first | refine blk_drewN ?_ _ | refine blk_drew ?_ | refine blk_alloc ?_ _)); refine blk_far ?_ NB213_221.out _; (with_reducible repeat (first | refine blk_drewN ?_ _ | refine blk_drew ?_ | refine blk_alloc ?_ _)); refine blk_far ?_ NB213_221.out _; (with_reducible repeat (first | refine blk_drewN ?_ _ | refine blk_drew ?_ | refine blk_alloc ?_ _)); exact BK213.out) hb); have n11_ := Aside0.mk (blk_below (g := gb221) (o := .cells #[.slice Ao29 t214.length co29, .slice Ao33 t217.length co33] 25 (0, 0)) (by (with_reducible repeat (first | refine blk_drewN ?_ _ | refine blk_drew ?_ | refine blk_alloc ?_ _)); refine blk_put (cs := #[.slice Ao29 t214.length co29, .slice none 0 0]) ?_ 1 _ rfl; (with_reducible repeat (first | refine blk_drewN ?_ _ | refine blk_drew ?_ | refine blk_alloc ?_ _)); refine blk_put (cs := #[.slice none 0 0, .slice none 0 0]) ?_ 0 _ rfl; (with_reducible repeat (first | refine blk_drewN ?_ _ | refine blk_drew ?_ | refine blk_alloc ?_ _)); exact BK221.out) hb); have n12_ := Aside0.mk (below_step (by repeat (first | (with_reducible first | exact HB.out | apply below_alloc | apply pw_below_drewN | apply below_drew1 | refine below_set ?_ GE202.out | refine below_set ?_ GE213.out | refine below_set ?_ GE221.out) | exact HB.out)) hb); clear HO198; clear HO201; clear HO205; clear HO208; clear HO211; clear HO216; clear HO219; clear BK202; clear BK213; clear BK221; clear HB; have HO198 := n0_; have HO201 := n1_; have HO205 := n2_; have HO208 := n3_; have HO211 := n4_; have HO216 := n5_; have HO219 := n6_; have HO224 := n7_; have HO227 := n8_; have BK202 := n9_; have BK213 := n10_; have BK221 := n11_; have HB := n12_; clear n0_ n1_ n2_ n3_ n4_ n5_ n6_ n7_ n8_ n9_ n10_ n11_ n12_; (try clear hb); (try clear hb2); (try clear hk); (try clear hi); (try clear ho0); (try clear ho1)) | ((with_reducible refine gate_dst (N := 11) rfl ?_); (try (refine gate_guard (by rfl) ?_; dsimp only)); refine box_event ?hg (N := 11) ?hd (cs := #[.slice none 0 0, .slice none 0 0]) (t := 25) ?hr ?_; (case hd => rfl); (case hg => rfl); (case hr => first | (go_simp; done) | (go_simp; rfl)); intro gb229 hg w36 hbox hb; have n0_ := Aside0.mk (Kd.R_below (by (with_reducible repeat (first | apply Kd.R_alloc | apply Kd.R_drewN | apply Kd.R_drew)); exact HO198.out) hb); have n1_ := Aside0.mk (Kd.V_below (Kd.V_elderB (by (with_reducible repeat (first | apply Kd.V_alloc | apply Kd.V_drewN | apply Kd.V_drew)); exact HO201.out) gb229 (Nat.le_of_eq hg.symm)) hb); have n2_ := Aside0.mk (Kd.R_below (by (with_reducible repeat (first | apply Kd.R_alloc | apply Kd.R_drewN | apply Kd.R_drew)); exact HO205.out) hb); have n3_ := Aside0.mk (Kd.R_below (by (with_reducible repeat (first | apply Kd.R_alloc | apply Kd.R_drewN | apply Kd.R_drew)); exact HO208.out) hb); have n4_ := Aside0.mk (Kd.S_below (by (with_reducible repeat (first | apply Kd.S_alloc | apply Kd.S_drewN | apply Kd.S_drew)); exact HO211.out) hb); have n5_ := Aside0.mk (Kd.R_below (by (with_reducible repeat (first | apply Kd.R_alloc | apply Kd.R_drewN | apply Kd.R_drew)); exact HO216.out) hb); have n6_ := Aside0.mk (Kd.S_below (by (with_reducible repeat (first | apply Kd.S_alloc | apply Kd.S_drewN | apply Kd.S_drew)); exact HO219.out) hb); have n7_ := Aside0.mk (Kd.R_below (by (with_reducible repeat (first | apply Kd.R_alloc | apply Kd.R_drewN | apply Kd.R_drew)); exact HO224.out) hb); have n8_ := Aside0.mk (Kd.S_below (by (with_reducible repeat (first | apply Kd.S_alloc | apply Kd.S_drewN | apply Kd.S_drew)); exact HO227.out) hb); have n9_ := Aside0.mk (blk_below (g := gb202) (o := .cells #[.slice Ao14 t196.length co14, .slice Ao16 t199.length co16] 25 (0, 0)) (by (with_reducible repeat (first | refine blk_drewN ?_ _ | refine blk_drew ?_ | refine blk_alloc ?_ _)); exact BK202.out) hb); have n10_ := Aside0.mk (blk_below (g := gb213) (o := .cells #[.slice Ao22 t206.length co22, .slice Ao25 t209.length co25] 25 (0, 0)) (by (with_reducible repeat (first | refine blk_drewN ?_ _ | refine blk_drew ?_ | refine blk_alloc ?_ _)); exact BK213.out) hb); have n11_ := Aside0.mk (blk_below (g := gb221) (o := .cells #[.slice Ao29 t214.length co29, .slice Ao33 t217.length co33] 25 (0, 0)) (by (with_reducible repeat (first | refine blk_drewN ?_ _ | refine blk_drew ?_ | refine blk_alloc ?_ _)); exact BK221.out) hb); have n12_ := Aside0.mk (below_step (by repeat (first | (with_reducible first | exact HB.out | apply below_alloc | apply pw_below_drewN | apply below_drew1 | refine below_set ?_ GE202.out | refine below_set ?_ GE213.out | refine below_set ?_ GE221.out) | exact HB.out)) hb); have n13_ := Aside0.mk (hbox); have n14_ := Aside0.mk ((by rw [hg]; exact (below_size (by repeat (first | (with_reducible first | exact HB.out | apply below_alloc | apply pw_below_drewN | apply below_drew1 | refine below_set ?_ GE202.out | refine below_set ?_ GE213.out | refine below_set ?_ GE221.out) | exact HB.out))) : w.heap.size ≤ gb229)); have n15_ := Aside0.mk ((by rw [hg]; exact (below_size (by repeat (first | (with_reducible first | exact HB.out | apply below_alloc | apply pw_below_drewN | apply below_drew1 | refine below_set ?_ GE202.out | refine below_set ?_ GE213.out | refine below_set ?_ GE221.out) | exact HB.out))) : w.heap.size ≤ gb229)); have n16_ := Aside0.mk ((by rw [hg]; exact Nat.ne_of_lt (blk_lt (g := gb202) (o := .cells #[.slice Ao14 t196.length co14, .slice Ao16 t199.length co16] 25 (0, 0)) (by (with_reducible repeat (first | refine blk_drewN ?_ _ | refine blk_drew ?_ | refine blk_alloc ?_ _)); exact BK202.out)) : gb202 ≠ gb229)); have n17_ := Aside0.mk ((by rw [hg]; exact Nat.ne_of_gt (blk_lt (g := gb202) (o := .cells #[.slice Ao14 t196.length co14, .slice Ao16 t199.length co16] 25 (0, 0)) (by (with_reducible repeat (first | refine blk_drewN ?_ _ | refine blk_drew ?_ | refine blk_alloc ?_ _)); exact BK202.out)) : gb229 ≠ gb202)); have n18_ := Aside0.mk ((by rw [hg]; exact Nat.ne_of_lt (blk_lt (g := gb213) (o := .cells #[.slice Ao22 t206.length co22, .slice Ao25 t209.length co25] 25 (0, 0)) (by (with_reducible repeat (first | refine blk_drewN ?_ _ | refine blk_drew ?_ | refine blk_alloc ?_ _)); exact BK213.out)) : gb213 ≠ gb229)); have n19_ := Aside0.mk ((by rw [hg]; exact Nat.ne_of_gt (blk_lt (g := gb213) (o := .cells #[.slice Ao22 t206.length co22, .slice Ao25 t209.length co25] 25 (0, 0)) (by (with_reducible repeat (first | refine blk_drewN ?_ _ | refine blk_drew ?_ | refine blk_alloc ?_ _)); exact BK213.out)) : gb229 ≠ gb213)); have n20_ := Aside0.mk ((by rw [hg]; exact Nat.ne_of_lt (blk_lt (g := gb221) (o := .cells #[.slice Ao29 t214.length co29, .slice Ao33 t217.length co33] 25 (0, 0)) (by (with_reducible repeat (first | refine blk_drewN ?_ _ | refine blk_drew ?_ | refine blk_alloc ?_ _)); exact BK221.out)) : gb221 ≠ gb229)); have n21_ := Aside0.mk ((by rw [hg]; exact Nat.ne_of_gt (blk_lt (g := gb221) (o := .cells #[.slice Ao29 t214.length co29, .slice Ao33 t217.length co33] 25 (0, 0)) (by (with_reducible repeat (first | refine blk_drewN ?_ _ | refine blk_drew ?_ | refine blk_alloc ?_ _)); exact BK221.out)) : gb229 ≠ gb221)); clear HO198; clear HO201; clear HO205; clear HO208; clear HO211; clear HO216; clear HO219; clear HO224; clear HO227; clear BK202; clear BK213; clear BK221; clear HB; have HO198 := n0_; have HO201 := n1_; have HO205 := n2_; have HO208 := n3_; have HO211 := n4_; have HO216 := n5_; have HO219 := n6_; have HO224 := n7_; have HO227 := n8_; have BK202 := n9_; have BK213 := n10_; have BK221 := n11_; have HB := n12_; have BK229 := n13_; have GW229 := n14_; have GE229 := n15_; have NB202_229 := n16_; have NB229_202 := n17_; have NB213_229 := n18_; have NB229_213 := n19_; have NB221_229 := n20_; have NB229_221 := n21_; clear n0_ n1_ n2_ n3_ n4_ n5_ n6_ n7_ n8_ n9_ n10_ n11_ n12_ n13_ n14_ n15_ n16_ n17_ n18_ n19_ n20_ n21_; clear hb hbox hg; obtain ⟨Ao37, co37, eo37⟩ := Kd.R_slice HO224.out; subst eo37; have hnb38 := NB229_202.out; have hnc38 := NB202_229.out; have hnb39 := NB229_213.out; have hnc39 := NB213_229.out; have hnb40 := NB229_221.out; have hnc40 := NB221_229.out; have hcz41_0 : w36.cell? ⟨gb229, 0, none⟩ = some (.slice none 0 0) := (blk_cell BK229.out 0).trans rfl; have hcz41_1 : w36.cell? ⟨gb229, 1, none⟩ = some (.slice none 0 0) := (blk_cell BK229.out 1).trans rfl; have hfz41_0 := blk_frozen BK229.out 0; have hfz41_1 := blk_frozen BK229.out 1; obtain ⟨Ao42, co42, eo42⟩ := Kd.S_slice HO227.out; subst eo42))
        (try simp only [Act.put, List.setIfInBounds_toArray, List.set_cons_zero, List.set_cons_succ])
        go_cut [75] (fun v75 wc => ∃ (kq : Nat) (x75_10 : Bool), v75 = .bool x75_10 ∧ Aside0 (laws_FnCrash.j1 kq x75_10 t196 t199 t206 t209 = some r) ∧ Aside0 (kq ≤ kj2) ∧ Aside0 (Kd.R (Kd.int .u8) 5 wc w.heap.size (fun k_ => some k_ ≠ ((.slice Ao22 t206.length co22) : Value).ownBlock ∧ some k_ ≠ ((.slice Ao29 t214.length co29) : Value).ownBlock ∧ some k_ ≠ ((.slice Ao37 t222.length co37) : Value).ownBlock) (.slice Ao14 t196.length co14) t196) ∧ Aside0 (Kd.V k32 32 wc w.heap.size (fun k_ => some k_ ≠ ((.slice Ao14 t196.length co14) : Value).ownBlock ∧ some k_ ≠ ((.slice Ao22 t206.length co22) : Value).ownBlock ∧ some k_ ≠ ((.slice Ao25 t209.length co25) : Value).ownBlock ∧ some k_ ≠ ((.slice Ao29 t214.length co29) : Value).ownBlock ∧ some k_ ≠ ((.slice Ao33 t217.length co33) : Value).ownBlock ∧ some k_ ≠ ((.slice Ao37 t222.length co37) : Value).ownBlock ∧ some k_ ≠ ((.slice Ao42 t225.length co42) : Value).ownBlock ∧ k_ ≠ gb202 ∧ k_ ≠ gb213 ∧ k_ ≠ gb221 ∧ k_ ≠ gb229) (.slice Ao16 t199.length co16) t199) ∧ Aside0 (Kd.R (Kd.int .u8) 5 wc w.heap.size (fun k_ => some k_ ≠ ((.slice Ao14 t196.length co14) : Value).ownBlock ∧ some k_ ≠ ((.slice Ao29 t214.length co29) : Value).ownBlock ∧ some k_ ≠ ((.slice Ao37 t222.length co37) : Value).ownBlock) (.slice Ao22 t206.length co22) t206) ∧ Aside0 (Kd.S k32 32 wc w.heap.size (fun k_ => some k_ ≠ ((.slice Ao14 t196.length co14) : Value).ownBlock ∧ some k_ ≠ ((.slice Ao22 t206.length co22) : Value).ownBlock ∧ some k_ ≠ ((.slice Ao29 t214.length co29) : Value).ownBlock ∧ some k_ ≠ ((.slice Ao33 t217.length co33) : Value).ownBlock ∧ some k_ ≠ ((.slice Ao37 t222.length co37) : Value).ownBlock ∧ some k_ ≠ ((.slice Ao42 t225.length co42) : Value).ownBlock) (.slice Ao25 t209.length co25) t209) ∧ Aside0 (Kd.R (Kd.int .u8) 5 wc w.heap.size (fun k_ => some k_ ≠ ((.slice Ao14 t196.length co14) : Value).ownBlock ∧ some k_ ≠ ((.slice Ao22 t206.length co22) : Value).ownBlock ∧ some k_ ≠ ((.slice Ao37 t222.length co37) : Value).ownBlock) (.slice Ao29 t214.length co29) t214) ∧ Aside0 (Kd.S k32 32 wc w.heap.size (fun k_ => some k_ ≠ ((.slice Ao14 t196.length co14) : Value).ownBlock ∧ some k_ ≠ ((.slice Ao22 t206.length co22) : Value).ownBlock ∧ some k_ ≠ ((.slice Ao25 t209.length co25) : Value).ownBlock ∧ some k_ ≠ ((.slice Ao29 t214.length co29) : Value).ownBlock ∧ some k_ ≠ ((.slice Ao37 t222.length co37) : Value).ownBlock ∧ some k_ ≠ ((.slice Ao42 t225.length co42) : Value).ownBlock) (.slice Ao33 t217.length co33) t217) ∧ Aside0 (Kd.R (Kd.int .u8) 5 wc w.heap.size (fun k_ => some k_ ≠ ((.slice Ao14 t196.length co14) : Value).ownBlock ∧ some k_ ≠ ((.slice Ao22 t206.length co22) : Value).ownBlock ∧ some k_ ≠ ((.slice Ao29 t214.length co29) : Value).ownBlock) (.slice Ao37 t222.length co37) t222) ∧ Aside0 (Kd.S k32 32 wc w.heap.size (fun k_ => some k_ ≠ ((.slice Ao14 t196.length co14) : Value).ownBlock ∧ some k_ ≠ ((.slice Ao22 t206.length co22) : Value).ownBlock ∧ some k_ ≠ ((.slice Ao25 t209.length co25) : Value).ownBlock ∧ some k_ ≠ ((.slice Ao29 t214.length co29) : Value).ownBlock ∧ some k_ ≠ ((.slice Ao33 t217.length co33) : Value).ownBlock ∧ some k_ ≠ ((.slice Ao37 t222.length co37) : Value).ownBlock) (.slice Ao42 t225.length co42) t225) ∧ Aside0 (wc.heap[gb202]? = some (.cells #[(.slice Ao14 t196.length co14), (.slice Ao16 t199.length co16)] 25 (0, 0))) ∧ Aside0 (wc.heap[gb213]? = some (.cells #[(.slice Ao22 t206.length co22), (.slice Ao25 t209.length co25)] 25 (0, 0))) ∧ Aside0 (wc.heap[gb221]? = some (.cells #[(.slice Ao29 t214.length co29), (.slice Ao33 t217.length co33)] 25 (0, 0))) ∧ Aside0 (wc.heap[gb229]? = some (.cells #[(.slice Ao37 t222.length co37), (.slice Ao42 t225.length co42)] 25 (0, 0))) ∧ Aside0 (Below w.heap.size w wc))
        case first =>
          have H := HC11.out
          clear HC11
          by_cases c43 : t212 = 0
          · rw [if_pos c43] at H
            have c43b0 : (t212 == 0) = true := beq_iff_eq.mpr c43
            have c43b1 : (t212 != 0) = false := bne_eq_false_iff_eq.mpr c43
            clear c43
            (first | rw [c43b0] | (simp only [i64_w, i32_w]; rw [c43b0]) | skip)
            by_cases c44 : t228 = 0
            · rw [if_pos c44] at H
              have c44b0 : (t228 == 0) = true := beq_iff_eq.mpr c44
              have c44b1 : (t228 != 0) = false := bne_eq_false_iff_eq.mpr c44
              clear c44
              by_cases c45 : (strOfNums t206).toList = (strOfNums t214).toList
              · rw [if_pos c45] at H
                have c45b0 : ((strOfNums t206).toList == (strOfNums t214).toList) = true := beq_iff_eq.mpr c45
                have c45b1 : ((strOfNums t206).toList != (strOfNums t214).toList) = false := bne_eq_false_iff_eq.mpr c45
                clear c45
                by_cases c46 : (t209.length : Int) = 0
                · rw [if_pos c46] at H
                  have c46b0 : ((t209.length : Int) == 0) = true := beq_iff_eq.mpr c46
                  have c46b1 : ((t209.length : Int) != 0) = false := bne_eq_false_iff_eq.mpr c46
                  clear c46
                  have H' := Aside0.mk H
                  clear H
                  have hnb47 := NB213_202.out
                  have hnc47 := NB202_213.out
                  have hnb48 := NB213_221.out
                  have hnc48 := NB221_213.out
                  have hnb49 := NB213_229.out
                  have hnc49 := NB229_213.out
                  have hcz50_0 : w36.cell? ⟨gb213, 0, none⟩ = some (.slice Ao22 t206.length co22) := (blk_cell BK213.out 0).trans rfl
                  have hcz50_1 : w36.cell? ⟨gb213, 1, none⟩ = some (.slice Ao25 t209.length co25) := (blk_cell BK213.out 1).trans rfl
                  have hfz50_0 := blk_frozen BK213.out 0
                  have hfz50_1 := blk_frozen BK213.out 1
                  have hcv51 := own_string (P := Try.prog) Try.underlying22 Try.underlying5 Try.underlying9 (Kd.own_of_R (Kd.R_far (p := ⟨gb229, 1, none⟩) (Kd.R_far (p := ⟨gb229, 0, none⟩) (Kd.R_types HO208.out BK229.out (by decide)) (fun _ hk => hk.2) (.slice Ao37 t222.length co37)) (fun _ hk => hk.2) (.slice Ao42 t225.length co42)))
                  have hnb52 := NB221_202.out
                  have hnc52 := NB202_221.out
                  have hnb53 := NB221_229.out
                  have hnc53 := NB229_221.out
                  have hcz54_0 : w36.cell? ⟨gb221, 0, none⟩ = some (.slice Ao29 t214.length co29) := (blk_cell BK221.out 0).trans rfl
                  have hcz54_1 : w36.cell? ⟨gb221, 1, none⟩ = some (.slice Ao33 t217.length co33) := (blk_cell BK221.out 1).trans rfl
                  have hfz54_0 := blk_frozen BK221.out 0
                  have hfz54_1 := blk_frozen BK221.out 1
                  have hcv55 := own_string (P := Try.prog) Try.underlying22 Try.underlying5 Try.underlying9 (Kd.own_of_R (Kd.R_far (p := ⟨gb229, 1, none⟩) (Kd.R_far (p := ⟨gb229, 0, none⟩) (Kd.R_types HO216.out BK229.out (by decide)) (fun _ hk => hk.2) (.slice Ao37 t222.length co37)) (fun _ hk => hk.2) (.slice Ao42 t225.length co42)))
                  have hnb56 := NB229_202.out
                  have hnc56 := NB202_229.out
                  have hcz57_0 : w36.cell? ⟨gb229, 0, none⟩ = some (.slice none 0 0) := (blk_cell BK229.out 0).trans rfl
                  have hcz57_1 : w36.cell? ⟨gb229, 1, none⟩ = some (.slice none 0 0) := (blk_cell BK229.out 1).trans rfl
                  have hfz57_0 := blk_frozen BK229.out 0
                  have hfz57_1 := blk_frozen BK229.out 1
                  have hcv58 := own_string (P := Try.prog) Try.underlying22 Try.underlying5 Try.underlying9 (Kd.own_of_R (Kd.R_far (p := ⟨gb229, 1, none⟩) (Kd.R_far (p := ⟨gb229, 0, none⟩) (Kd.R_types HO224.out BK229.out (by decide)) (fun _ hk => hk.2) (.slice Ao37 t222.length co37)) (fun _ hk => hk.2) (.slice Ao42 t225.length co42)))
                  have hcz59_0 : w36.cell? ⟨gb202, 0, none⟩ = some (.slice Ao14 t196.length co14) := (blk_cell BK202.out 0).trans rfl
                  have hcz59_1 : w36.cell? ⟨gb202, 1, none⟩ = some (.slice Ao16 t199.length co16) := (blk_cell BK202.out 1).trans rfl
                  have hfz59_0 := blk_frozen BK202.out 0
                  have hfz59_1 := blk_frozen BK202.out 1
                  have hcv60 := own_string (P := Try.prog) Try.underlying22 Try.underlying5 Try.underlying9 (Kd.own_of_R (Kd.R_far (p := ⟨gb229, 1, none⟩) (Kd.R_far (p := ⟨gb229, 0, none⟩) (Kd.R_types HO198.out BK229.out (by decide)) (fun _ hk => hk.2) (.slice Ao37 t222.length co37)) (fun _ hk => hk.2) (.slice Ao42 t225.length co42)))
                  go_wp2
                  go_meet
                  case rel => exact ⟨_, (((strOfNums t222).toList != (strOfNums t196).toList)), (by first | rfl | (simp; done) | (simp [*]; done)), H', ⟨by have := HJ2.out; first | omega | exact Nat.le_refl _⟩, ⟨by (with_reducible repeat (first | apply Kd.R_alloc | apply Kd.R_drewN | apply Kd.R_drew)); exact Kd.R_mono (Kd.R_far (p := ⟨gb229, 1, none⟩) (Kd.R_far (p := ⟨gb229, 0, none⟩) (Kd.R_types HO198.out BK229.out (by decide)) (fun _ hk => hk.2) (.slice Ao37 t222.length co37)) (fun _ hk => hk.2) (.slice Ao42 t225.length co42)) (fun _ hk => ⟨hk.1.1.1.2, ⟨hk.1.1.2, hk.1.2⟩⟩)⟩, ⟨by (with_reducible repeat (first | apply Kd.V_alloc | apply Kd.V_drewN | apply Kd.V_drew)); exact Kd.V_mono (Kd.V_far (p := ⟨gb229, 1, none⟩) (Kd.V_far (p := ⟨gb229, 0, none⟩) (Kd.V_mono HO201.out (fun k_ hk => (⟨hk, hk.2⟩ : _ ∧ k_ ≠ gb229))) (fun _ hk => hk.2) (.slice Ao37 t222.length co37)) (fun _ hk => hk.2) (.slice Ao42 t225.length co42)) (fun _ hk => ⟨hk.1.1.1.1.1.1.1.1.1.1.1.1, ⟨hk.1.1.1.1.1.1.1.1.1.2, ⟨hk.1.1.1.1.1.1.1.1.2, ⟨hk.1.1.1.1.1.1.2, ⟨hk.1.1.1.1.1.2, ⟨hk.1.1.1.2, ⟨hk.1.1.2, ⟨hk.1.1.1.1.1.1.1.1.1.1.1.2, ⟨hk.1.1.1.1.1.1.1.2, ⟨hk.1.1.1.1.2, hk.1.2⟩⟩⟩⟩⟩⟩⟩⟩⟩⟩)⟩, ⟨by (with_reducible repeat (first | apply Kd.R_alloc | apply Kd.R_drewN | apply Kd.R_drew)); exact Kd.R_mono (Kd.R_far (p := ⟨gb229, 1, none⟩) (Kd.R_far (p := ⟨gb229, 0, none⟩) (Kd.R_types HO208.out BK229.out (by decide)) (fun _ hk => hk.2) (.slice Ao37 t222.length co37)) (fun _ hk => hk.2) (.slice Ao42 t225.length co42)) (fun _ hk => ⟨hk.1.1.1.2, ⟨hk.1.1.2, hk.1.2⟩⟩)⟩, ⟨by (with_reducible repeat (first | apply Kd.S_alloc | apply Kd.S_drewN | apply Kd.S_drew)); exact Kd.S_mono (Kd.S_far (p := ⟨gb229, 1, none⟩) (Kd.S_far (p := ⟨gb229, 0, none⟩) (Kd.S_types HO211.out BK229.out (by decide)) (fun _ hk => hk.2) (.slice Ao37 t222.length co37)) (fun _ hk => hk.2) (.slice Ao42 t225.length co42)) (fun _ hk => ⟨hk.1.1.1.1.1.2, ⟨hk.1.1.1.1.1.1, ⟨hk.1.1.1.1.2, ⟨hk.1.1.1.2, ⟨hk.1.1.2, hk.1.2⟩⟩⟩⟩⟩)⟩, ⟨by (with_reducible repeat (first | apply Kd.R_alloc | apply Kd.R_drewN | apply Kd.R_drew)); exact Kd.R_mono (Kd.R_far (p := ⟨gb229, 1, none⟩) (Kd.R_far (p := ⟨gb229, 0, none⟩) (Kd.R_types HO216.out BK229.out (by decide)) (fun _ hk => hk.2) (.slice Ao37 t222.length co37)) (fun _ hk => hk.2) (.slice Ao42 t225.length co42)) (fun _ hk => ⟨hk.1.1.1.2, ⟨hk.1.1.2, hk.1.2⟩⟩)⟩, ⟨by (with_reducible repeat (first | apply Kd.S_alloc | apply Kd.S_drewN | apply Kd.S_drew)); exact Kd.S_mono (Kd.S_far (p := ⟨gb229, 1, none⟩) (Kd.S_far (p := ⟨gb229, 0, none⟩) (Kd.S_types HO219.out BK229.out (by decide)) (fun _ hk => hk.2) (.slice Ao37 t222.length co37)) (fun _ hk => hk.2) (.slice Ao42 t225.length co42)) (fun _ hk => ⟨hk.1.1.1.1.1.2, ⟨hk.1.1.1.1.2, ⟨hk.1.1.1.2, ⟨hk.1.1.1.1.1.1, ⟨hk.1.1.2, hk.1.2⟩⟩⟩⟩⟩)⟩, ⟨by (with_reducible repeat (first | apply Kd.R_alloc | apply Kd.R_drewN | apply Kd.R_drew)); exact Kd.R_mono (Kd.R_far (p := ⟨gb229, 1, none⟩) (Kd.R_far (p := ⟨gb229, 0, none⟩) (Kd.R_types HO224.out BK229.out (by decide)) (fun _ hk => hk.2) (.slice Ao37 t222.length co37)) (fun _ hk => hk.2) (.slice Ao42 t225.length co42)) (fun _ hk => ⟨hk.1.1.1.2, ⟨hk.1.1.2, hk.1.2⟩⟩)⟩, ⟨by (with_reducible repeat (first | apply Kd.S_alloc | apply Kd.S_drewN | apply Kd.S_drew)); exact Kd.S_mono (Kd.S_far (p := ⟨gb229, 1, none⟩) (Kd.S_far (p := ⟨gb229, 0, none⟩) (Kd.S_types HO227.out BK229.out (by decide)) (fun _ hk => hk.2) (.slice Ao37 t222.length co37)) (fun _ hk => hk.2) (.slice Ao42 t225.length co42)) (fun _ hk => ⟨hk.1.1.1.1.1.2, ⟨hk.1.1.1.1.2, ⟨hk.1.1.1.2, ⟨hk.1.1.2, ⟨hk.1.2, hk.1.1.1.1.1.1⟩⟩⟩⟩⟩)⟩, ⟨by (with_reducible repeat (first | refine blk_drewN ?_ _ | refine blk_drew ?_ | refine blk_alloc ?_ _)); refine blk_far ?_ NB202_229.out _; (with_reducible repeat (first | refine blk_drewN ?_ _ | refine blk_drew ?_ | refine blk_alloc ?_ _)); refine blk_far ?_ NB202_229.out _; (with_reducible repeat (first | refine blk_drewN ?_ _ | refine blk_drew ?_ | refine blk_alloc ?_ _)); exact BK202.out⟩, ⟨by (with_reducible repeat (first | refine blk_drewN ?_ _ | refine blk_drew ?_ | refine blk_alloc ?_ _)); refine blk_far ?_ NB213_229.out _; (with_reducible repeat (first | refine blk_drewN ?_ _ | refine blk_drew ?_ | refine blk_alloc ?_ _)); refine blk_far ?_ NB213_229.out _; (with_reducible repeat (first | refine blk_drewN ?_ _ | refine blk_drew ?_ | refine blk_alloc ?_ _)); exact BK213.out⟩, ⟨by (with_reducible repeat (first | refine blk_drewN ?_ _ | refine blk_drew ?_ | refine blk_alloc ?_ _)); refine blk_far ?_ NB221_229.out _; (with_reducible repeat (first | refine blk_drewN ?_ _ | refine blk_drew ?_ | refine blk_alloc ?_ _)); refine blk_far ?_ NB221_229.out _; (with_reducible repeat (first | refine blk_drewN ?_ _ | refine blk_drew ?_ | refine blk_alloc ?_ _)); exact BK221.out⟩, ⟨by (with_reducible repeat (first | refine blk_drewN ?_ _ | refine blk_drew ?_ | refine blk_alloc ?_ _)); refine blk_put (cs := #[.slice Ao37 t222.length co37, .slice none 0 0]) ?_ 1 _ rfl; (with_reducible repeat (first | refine blk_drewN ?_ _ | refine blk_drew ?_ | refine blk_alloc ?_ _)); refine blk_put (cs := #[.slice none 0 0, .slice none 0 0]) ?_ 0 _ rfl; (with_reducible repeat (first | refine blk_drewN ?_ _ | refine blk_drew ?_ | refine blk_alloc ?_ _)); exact BK229.out⟩, ⟨by repeat (first | (with_reducible first | exact HB.out | apply below_alloc | apply pw_below_drewN | apply below_drew1 | refine below_set ?_ GE202.out | refine below_set ?_ GE213.out | refine below_set ?_ GE221.out | refine below_set ?_ GE229.out) | exact HB.out)⟩⟩
                · rw [if_neg c46] at H
                  have c46b0 : ((t209.length : Int) == 0) = false := beq_eq_false_iff_ne.mpr c46
                  have c46b1 : ((t209.length : Int) != 0) = true := bne_iff_ne.mpr c46
                  have c46b2 : ¬ (t209 = []) := fun h_ => c46 (by rw [h_]; rfl)
                  have H' := Aside0.mk H
                  clear H
                  have hnb61 := NB213_202.out
                  have hnc61 := NB202_213.out
                  have hnb62 := NB213_221.out
                  have hnc62 := NB221_213.out
                  have hnb63 := NB213_229.out
                  have hnc63 := NB229_213.out
                  have hcz64_0 : w36.cell? ⟨gb213, 0, none⟩ = some (.slice Ao22 t206.length co22) := (blk_cell BK213.out 0).trans rfl
                  have hcz64_1 : w36.cell? ⟨gb213, 1, none⟩ = some (.slice Ao25 t209.length co25) := (blk_cell BK213.out 1).trans rfl
                  have hfz64_0 := blk_frozen BK213.out 0
                  have hfz64_1 := blk_frozen BK213.out 1
                  have hcv65 := own_string (P := Try.prog) Try.underlying22 Try.underlying5 Try.underlying9 (Kd.own_of_R (Kd.R_far (p := ⟨gb229, 1, none⟩) (Kd.R_far (p := ⟨gb229, 0, none⟩) (Kd.R_types HO208.out BK229.out (by decide)) (fun _ hk => hk.2) (.slice Ao37 t222.length co37)) (fun _ hk => hk.2) (.slice Ao42 t225.length co42)))
                  have hnb66 := NB221_202.out
                  have hnc66 := NB202_221.out
                  have hnb67 := NB221_229.out
                  have hnc67 := NB229_221.out
                  have hcz68_0 : w36.cell? ⟨gb221, 0, none⟩ = some (.slice Ao29 t214.length co29) := (blk_cell BK221.out 0).trans rfl
                  have hcz68_1 : w36.cell? ⟨gb221, 1, none⟩ = some (.slice Ao33 t217.length co33) := (blk_cell BK221.out 1).trans rfl
                  have hfz68_0 := blk_frozen BK221.out 0
                  have hfz68_1 := blk_frozen BK221.out 1
                  have hcv69 := own_string (P := Try.prog) Try.underlying22 Try.underlying5 Try.underlying9 (Kd.own_of_R (Kd.R_far (p := ⟨gb229, 1, none⟩) (Kd.R_far (p := ⟨gb229, 0, none⟩) (Kd.R_types HO216.out BK229.out (by decide)) (fun _ hk => hk.2) (.slice Ao37 t222.length co37)) (fun _ hk => hk.2) (.slice Ao42 t225.length co42)))
                  go_wp2
                  go_meet
                  case rel => exact ⟨_, (true), (by first | rfl | (simp; done) | (simp [*]; done)), H', ⟨by have := HJ2.out; first | omega | exact Nat.le_refl _⟩, ⟨by (with_reducible repeat (first | apply Kd.R_alloc | apply Kd.R_drewN | apply Kd.R_drew)); exact Kd.R_mono (Kd.R_far (p := ⟨gb229, 1, none⟩) (Kd.R_far (p := ⟨gb229, 0, none⟩) (Kd.R_types HO198.out BK229.out (by decide)) (fun _ hk => hk.2) (.slice Ao37 t222.length co37)) (fun _ hk => hk.2) (.slice Ao42 t225.length co42)) (fun _ hk => ⟨hk.1.1.1.2, ⟨hk.1.1.2, hk.1.2⟩⟩)⟩, ⟨by (with_reducible repeat (first | apply Kd.V_alloc | apply Kd.V_drewN | apply Kd.V_drew)); exact Kd.V_mono (Kd.V_far (p := ⟨gb229, 1, none⟩) (Kd.V_far (p := ⟨gb229, 0, none⟩) (Kd.V_mono HO201.out (fun k_ hk => (⟨hk, hk.2⟩ : _ ∧ k_ ≠ gb229))) (fun _ hk => hk.2) (.slice Ao37 t222.length co37)) (fun _ hk => hk.2) (.slice Ao42 t225.length co42)) (fun _ hk => ⟨hk.1.1.1.1.1.1.1.1.1.1.1.1, ⟨hk.1.1.1.1.1.1.1.1.1.2, ⟨hk.1.1.1.1.1.1.1.1.2, ⟨hk.1.1.1.1.1.1.2, ⟨hk.1.1.1.1.1.2, ⟨hk.1.1.1.2, ⟨hk.1.1.2, ⟨hk.1.1.1.1.1.1.1.1.1.1.1.2, ⟨hk.1.1.1.1.1.1.1.2, ⟨hk.1.1.1.1.2, hk.1.2⟩⟩⟩⟩⟩⟩⟩⟩⟩⟩)⟩, ⟨by (with_reducible repeat (first | apply Kd.R_alloc | apply Kd.R_drewN | apply Kd.R_drew)); exact Kd.R_mono (Kd.R_far (p := ⟨gb229, 1, none⟩) (Kd.R_far (p := ⟨gb229, 0, none⟩) (Kd.R_types HO208.out BK229.out (by decide)) (fun _ hk => hk.2) (.slice Ao37 t222.length co37)) (fun _ hk => hk.2) (.slice Ao42 t225.length co42)) (fun _ hk => ⟨hk.1.1.1.2, ⟨hk.1.1.2, hk.1.2⟩⟩)⟩, ⟨by (with_reducible repeat (first | apply Kd.S_alloc | apply Kd.S_drewN | apply Kd.S_drew)); exact Kd.S_mono (Kd.S_far (p := ⟨gb229, 1, none⟩) (Kd.S_far (p := ⟨gb229, 0, none⟩) (Kd.S_types HO211.out BK229.out (by decide)) (fun _ hk => hk.2) (.slice Ao37 t222.length co37)) (fun _ hk => hk.2) (.slice Ao42 t225.length co42)) (fun _ hk => ⟨hk.1.1.1.1.1.2, ⟨hk.1.1.1.1.1.1, ⟨hk.1.1.1.1.2, ⟨hk.1.1.1.2, ⟨hk.1.1.2, hk.1.2⟩⟩⟩⟩⟩)⟩, ⟨by (with_reducible repeat (first | apply Kd.R_alloc | apply Kd.R_drewN | apply Kd.R_drew)); exact Kd.R_mono (Kd.R_far (p := ⟨gb229, 1, none⟩) (Kd.R_far (p := ⟨gb229, 0, none⟩) (Kd.R_types HO216.out BK229.out (by decide)) (fun _ hk => hk.2) (.slice Ao37 t222.length co37)) (fun _ hk => hk.2) (.slice Ao42 t225.length co42)) (fun _ hk => ⟨hk.1.1.1.2, ⟨hk.1.1.2, hk.1.2⟩⟩)⟩, ⟨by (with_reducible repeat (first | apply Kd.S_alloc | apply Kd.S_drewN | apply Kd.S_drew)); exact Kd.S_mono (Kd.S_far (p := ⟨gb229, 1, none⟩) (Kd.S_far (p := ⟨gb229, 0, none⟩) (Kd.S_types HO219.out BK229.out (by decide)) (fun _ hk => hk.2) (.slice Ao37 t222.length co37)) (fun _ hk => hk.2) (.slice Ao42 t225.length co42)) (fun _ hk => ⟨hk.1.1.1.1.1.2, ⟨hk.1.1.1.1.2, ⟨hk.1.1.1.2, ⟨hk.1.1.1.1.1.1, ⟨hk.1.1.2, hk.1.2⟩⟩⟩⟩⟩)⟩, ⟨by (with_reducible repeat (first | apply Kd.R_alloc | apply Kd.R_drewN | apply Kd.R_drew)); exact Kd.R_mono (Kd.R_far (p := ⟨gb229, 1, none⟩) (Kd.R_far (p := ⟨gb229, 0, none⟩) (Kd.R_types HO224.out BK229.out (by decide)) (fun _ hk => hk.2) (.slice Ao37 t222.length co37)) (fun _ hk => hk.2) (.slice Ao42 t225.length co42)) (fun _ hk => ⟨hk.1.1.1.2, ⟨hk.1.1.2, hk.1.2⟩⟩)⟩, ⟨by (with_reducible repeat (first | apply Kd.S_alloc | apply Kd.S_drewN | apply Kd.S_drew)); exact Kd.S_mono (Kd.S_far (p := ⟨gb229, 1, none⟩) (Kd.S_far (p := ⟨gb229, 0, none⟩) (Kd.S_types HO227.out BK229.out (by decide)) (fun _ hk => hk.2) (.slice Ao37 t222.length co37)) (fun _ hk => hk.2) (.slice Ao42 t225.length co42)) (fun _ hk => ⟨hk.1.1.1.1.1.2, ⟨hk.1.1.1.1.2, ⟨hk.1.1.1.2, ⟨hk.1.1.2, ⟨hk.1.2, hk.1.1.1.1.1.1⟩⟩⟩⟩⟩)⟩, ⟨by (with_reducible repeat (first | refine blk_drewN ?_ _ | refine blk_drew ?_ | refine blk_alloc ?_ _)); refine blk_far ?_ NB202_229.out _; (with_reducible repeat (first | refine blk_drewN ?_ _ | refine blk_drew ?_ | refine blk_alloc ?_ _)); refine blk_far ?_ NB202_229.out _; (with_reducible repeat (first | refine blk_drewN ?_ _ | refine blk_drew ?_ | refine blk_alloc ?_ _)); exact BK202.out⟩, ⟨by (with_reducible repeat (first | refine blk_drewN ?_ _ | refine blk_drew ?_ | refine blk_alloc ?_ _)); refine blk_far ?_ NB213_229.out _; (with_reducible repeat (first | refine blk_drewN ?_ _ | refine blk_drew ?_ | refine blk_alloc ?_ _)); refine blk_far ?_ NB213_229.out _; (with_reducible repeat (first | refine blk_drewN ?_ _ | refine blk_drew ?_ | refine blk_alloc ?_ _)); exact BK213.out⟩, ⟨by (with_reducible repeat (first | refine blk_drewN ?_ _ | refine blk_drew ?_ | refine blk_alloc ?_ _)); refine blk_far ?_ NB221_229.out _; (with_reducible repeat (first | refine blk_drewN ?_ _ | refine blk_drew ?_ | refine blk_alloc ?_ _)); refine blk_far ?_ NB221_229.out _; (with_reducible repeat (first | refine blk_drewN ?_ _ | refine blk_drew ?_ | refine blk_alloc ?_ _)); exact BK221.out⟩, ⟨by (with_reducible repeat (first | refine blk_drewN ?_ _ | refine blk_drew ?_ | refine blk_alloc ?_ _)); refine blk_put (cs := #[.slice Ao37 t222.length co37, .slice none 0 0]) ?_ 1 _ rfl; (with_reducible repeat (first | refine blk_drewN ?_ _ | refine blk_drew ?_ | refine blk_alloc ?_ _)); refine blk_put (cs := #[.slice none 0 0, .slice none 0 0]) ?_ 0 _ rfl; (with_reducible repeat (first | refine blk_drewN ?_ _ | refine blk_drew ?_ | refine blk_alloc ?_ _)); exact BK229.out⟩, ⟨by repeat (first | (with_reducible first | exact HB.out | apply below_alloc | apply pw_below_drewN | apply below_drew1 | refine below_set ?_ GE202.out | refine below_set ?_ GE213.out | refine below_set ?_ GE221.out | refine below_set ?_ GE229.out) | exact HB.out)⟩⟩
              · rw [if_neg c45] at H
                have c45b0 : ((strOfNums t206).toList == (strOfNums t214).toList) = false := beq_eq_false_iff_ne.mpr c45
                have c45b1 : ((strOfNums t206).toList != (strOfNums t214).toList) = true := bne_iff_ne.mpr c45
                have H' := Aside0.mk H
                clear H
                have hnb70 := NB213_202.out
                have hnc70 := NB202_213.out
                have hnb71 := NB213_221.out
                have hnc71 := NB221_213.out
                have hnb72 := NB213_229.out
                have hnc72 := NB229_213.out
                have hcz73_0 : w36.cell? ⟨gb213, 0, none⟩ = some (.slice Ao22 t206.length co22) := (blk_cell BK213.out 0).trans rfl
                have hcz73_1 : w36.cell? ⟨gb213, 1, none⟩ = some (.slice Ao25 t209.length co25) := (blk_cell BK213.out 1).trans rfl
                have hfz73_0 := blk_frozen BK213.out 0
                have hfz73_1 := blk_frozen BK213.out 1
                have hcv74 := own_string (P := Try.prog) Try.underlying22 Try.underlying5 Try.underlying9 (Kd.own_of_R (Kd.R_far (p := ⟨gb229, 1, none⟩) (Kd.R_far (p := ⟨gb229, 0, none⟩) (Kd.R_types HO208.out BK229.out (by decide)) (fun _ hk => hk.2) (.slice Ao37 t222.length co37)) (fun _ hk => hk.2) (.slice Ao42 t225.length co42)))
                have hnb75 := NB221_202.out
                have hnc75 := NB202_221.out
                have hnb76 := NB221_229.out
                have hnc76 := NB229_221.out
                have hcz77_0 : w36.cell? ⟨gb221, 0, none⟩ = some (.slice Ao29 t214.length co29) := (blk_cell BK221.out 0).trans rfl
                have hcz77_1 : w36.cell? ⟨gb221, 1, none⟩ = some (.slice Ao33 t217.length co33) := (blk_cell BK221.out 1).trans rfl
                have hfz77_0 := blk_frozen BK221.out 0
                have hfz77_1 := blk_frozen BK221.out 1
                have hcv78 := own_string (P := Try.prog) Try.underlying22 Try.underlying5 Try.underlying9 (Kd.own_of_R (Kd.R_far (p := ⟨gb229, 1, none⟩) (Kd.R_far (p := ⟨gb229, 0, none⟩) (Kd.R_types HO216.out BK229.out (by decide)) (fun _ hk => hk.2) (.slice Ao37 t222.length co37)) (fun _ hk => hk.2) (.slice Ao42 t225.length co42)))
                go_wp2
                go_meet
                case rel => exact ⟨_, (true), (by first | rfl | (simp; done) | (simp [*]; done)), H', ⟨by have := HJ2.out; first | omega | exact Nat.le_refl _⟩, ⟨by (with_reducible repeat (first | apply Kd.R_alloc | apply Kd.R_drewN | apply Kd.R_drew)); exact Kd.R_mono (Kd.R_far (p := ⟨gb229, 1, none⟩) (Kd.R_far (p := ⟨gb229, 0, none⟩) (Kd.R_types HO198.out BK229.out (by decide)) (fun _ hk => hk.2) (.slice Ao37 t222.length co37)) (fun _ hk => hk.2) (.slice Ao42 t225.length co42)) (fun _ hk => ⟨hk.1.1.1.2, ⟨hk.1.1.2, hk.1.2⟩⟩)⟩, ⟨by (with_reducible repeat (first | apply Kd.V_alloc | apply Kd.V_drewN | apply Kd.V_drew)); exact Kd.V_mono (Kd.V_far (p := ⟨gb229, 1, none⟩) (Kd.V_far (p := ⟨gb229, 0, none⟩) (Kd.V_mono HO201.out (fun k_ hk => (⟨hk, hk.2⟩ : _ ∧ k_ ≠ gb229))) (fun _ hk => hk.2) (.slice Ao37 t222.length co37)) (fun _ hk => hk.2) (.slice Ao42 t225.length co42)) (fun _ hk => ⟨hk.1.1.1.1.1.1.1.1.1.1.1.1, ⟨hk.1.1.1.1.1.1.1.1.1.2, ⟨hk.1.1.1.1.1.1.1.1.2, ⟨hk.1.1.1.1.1.1.2, ⟨hk.1.1.1.1.1.2, ⟨hk.1.1.1.2, ⟨hk.1.1.2, ⟨hk.1.1.1.1.1.1.1.1.1.1.1.2, ⟨hk.1.1.1.1.1.1.1.2, ⟨hk.1.1.1.1.2, hk.1.2⟩⟩⟩⟩⟩⟩⟩⟩⟩⟩)⟩, ⟨by (with_reducible repeat (first | apply Kd.R_alloc | apply Kd.R_drewN | apply Kd.R_drew)); exact Kd.R_mono (Kd.R_far (p := ⟨gb229, 1, none⟩) (Kd.R_far (p := ⟨gb229, 0, none⟩) (Kd.R_types HO208.out BK229.out (by decide)) (fun _ hk => hk.2) (.slice Ao37 t222.length co37)) (fun _ hk => hk.2) (.slice Ao42 t225.length co42)) (fun _ hk => ⟨hk.1.1.1.2, ⟨hk.1.1.2, hk.1.2⟩⟩)⟩, ⟨by (with_reducible repeat (first | apply Kd.S_alloc | apply Kd.S_drewN | apply Kd.S_drew)); exact Kd.S_mono (Kd.S_far (p := ⟨gb229, 1, none⟩) (Kd.S_far (p := ⟨gb229, 0, none⟩) (Kd.S_types HO211.out BK229.out (by decide)) (fun _ hk => hk.2) (.slice Ao37 t222.length co37)) (fun _ hk => hk.2) (.slice Ao42 t225.length co42)) (fun _ hk => ⟨hk.1.1.1.1.1.2, ⟨hk.1.1.1.1.1.1, ⟨hk.1.1.1.1.2, ⟨hk.1.1.1.2, ⟨hk.1.1.2, hk.1.2⟩⟩⟩⟩⟩)⟩, ⟨by (with_reducible repeat (first | apply Kd.R_alloc | apply Kd.R_drewN | apply Kd.R_drew)); exact Kd.R_mono (Kd.R_far (p := ⟨gb229, 1, none⟩) (Kd.R_far (p := ⟨gb229, 0, none⟩) (Kd.R_types HO216.out BK229.out (by decide)) (fun _ hk => hk.2) (.slice Ao37 t222.length co37)) (fun _ hk => hk.2) (.slice Ao42 t225.length co42)) (fun _ hk => ⟨hk.1.1.1.2, ⟨hk.1.1.2, hk.1.2⟩⟩)⟩, ⟨by (with_reducible repeat (first | apply Kd.S_alloc | apply Kd.S_drewN | apply Kd.S_drew)); exact Kd.S_mono (Kd.S_far (p := ⟨gb229, 1, none⟩) (Kd.S_far (p := ⟨gb229, 0, none⟩) (Kd.S_types HO219.out BK229.out (by decide)) (fun _ hk => hk.2) (.slice Ao37 t222.length co37)) (fun _ hk => hk.2) (.slice Ao42 t225.length co42)) (fun _ hk => ⟨hk.1.1.1.1.1.2, ⟨hk.1.1.1.1.2, ⟨hk.1.1.1.2, ⟨hk.1.1.1.1.1.1, ⟨hk.1.1.2, hk.1.2⟩⟩⟩⟩⟩)⟩, ⟨by (with_reducible repeat (first | apply Kd.R_alloc | apply Kd.R_drewN | apply Kd.R_drew)); exact Kd.R_mono (Kd.R_far (p := ⟨gb229, 1, none⟩) (Kd.R_far (p := ⟨gb229, 0, none⟩) (Kd.R_types HO224.out BK229.out (by decide)) (fun _ hk => hk.2) (.slice Ao37 t222.length co37)) (fun _ hk => hk.2) (.slice Ao42 t225.length co42)) (fun _ hk => ⟨hk.1.1.1.2, ⟨hk.1.1.2, hk.1.2⟩⟩)⟩, ⟨by (with_reducible repeat (first | apply Kd.S_alloc | apply Kd.S_drewN | apply Kd.S_drew)); exact Kd.S_mono (Kd.S_far (p := ⟨gb229, 1, none⟩) (Kd.S_far (p := ⟨gb229, 0, none⟩) (Kd.S_types HO227.out BK229.out (by decide)) (fun _ hk => hk.2) (.slice Ao37 t222.length co37)) (fun _ hk => hk.2) (.slice Ao42 t225.length co42)) (fun _ hk => ⟨hk.1.1.1.1.1.2, ⟨hk.1.1.1.1.2, ⟨hk.1.1.1.2, ⟨hk.1.1.2, ⟨hk.1.2, hk.1.1.1.1.1.1⟩⟩⟩⟩⟩)⟩, ⟨by (with_reducible repeat (first | refine blk_drewN ?_ _ | refine blk_drew ?_ | refine blk_alloc ?_ _)); refine blk_far ?_ NB202_229.out _; (with_reducible repeat (first | refine blk_drewN ?_ _ | refine blk_drew ?_ | refine blk_alloc ?_ _)); refine blk_far ?_ NB202_229.out _; (with_reducible repeat (first | refine blk_drewN ?_ _ | refine blk_drew ?_ | refine blk_alloc ?_ _)); exact BK202.out⟩, ⟨by (with_reducible repeat (first | refine blk_drewN ?_ _ | refine blk_drew ?_ | refine blk_alloc ?_ _)); refine blk_far ?_ NB213_229.out _; (with_reducible repeat (first | refine blk_drewN ?_ _ | refine blk_drew ?_ | refine blk_alloc ?_ _)); refine blk_far ?_ NB213_229.out _; (with_reducible repeat (first | refine blk_drewN ?_ _ | refine blk_drew ?_ | refine blk_alloc ?_ _)); exact BK213.out⟩, ⟨by (with_reducible repeat (first | refine blk_drewN ?_ _ | refine blk_drew ?_ | refine blk_alloc ?_ _)); refine blk_far ?_ NB221_229.out _; (with_reducible repeat (first | refine blk_drewN ?_ _ | refine blk_drew ?_ | refine blk_alloc ?_ _)); refine blk_far ?_ NB221_229.out _; (with_reducible repeat (first | refine blk_drewN ?_ _ | refine blk_drew ?_ | refine blk_alloc ?_ _)); exact BK221.out⟩, ⟨by (with_reducible repeat (first | refine blk_drewN ?_ _ | refine blk_drew ?_ | refine blk_alloc ?_ _)); refine blk_put (cs := #[.slice Ao37 t222.length co37, .slice none 0 0]) ?_ 1 _ rfl; (with_reducible repeat (first | refine blk_drewN ?_ _ | refine blk_drew ?_ | refine blk_alloc ?_ _)); refine blk_put (cs := #[.slice none 0 0, .slice none 0 0]) ?_ 0 _ rfl; (with_reducible repeat (first | refine blk_drewN ?_ _ | refine blk_drew ?_ | refine blk_alloc ?_ _)); exact BK229.out⟩, ⟨by repeat (first | (with_reducible first | exact HB.out | apply below_alloc | apply pw_below_drewN | apply below_drew1 | refine below_set ?_ GE202.out | refine below_set ?_ GE213.out | refine below_set ?_ GE221.out | refine below_set ?_ GE229.out) | exact HB.out)⟩⟩
            · rw [if_neg c44] at H
              have c44b0 : (t228 == 0) = false := beq_eq_false_iff_ne.mpr c44
              have c44b1 : (t228 != 0) = true := bne_iff_ne.mpr c44
              have H' := Aside0.mk H
              clear H
              go_wp2
              go_meet
              case rel => exact ⟨_, (true), (by first | rfl | (simp; done) | (simp [*]; done)), H', ⟨by have := HJ2.out; first | omega | exact Nat.le_refl _⟩, ⟨by (with_reducible repeat (first | apply Kd.R_alloc | apply Kd.R_drewN | apply Kd.R_drew)); exact Kd.R_mono (Kd.R_far (p := ⟨gb229, 1, none⟩) (Kd.R_far (p := ⟨gb229, 0, none⟩) (Kd.R_types HO198.out BK229.out (by decide)) (fun _ hk => hk.2) (.slice Ao37 t222.length co37)) (fun _ hk => hk.2) (.slice Ao42 t225.length co42)) (fun _ hk => ⟨hk.1.1.1.2, ⟨hk.1.1.2, hk.1.2⟩⟩)⟩, ⟨by (with_reducible repeat (first | apply Kd.V_alloc | apply Kd.V_drewN | apply Kd.V_drew)); exact Kd.V_mono (Kd.V_far (p := ⟨gb229, 1, none⟩) (Kd.V_far (p := ⟨gb229, 0, none⟩) (Kd.V_mono HO201.out (fun k_ hk => (⟨hk, hk.2⟩ : _ ∧ k_ ≠ gb229))) (fun _ hk => hk.2) (.slice Ao37 t222.length co37)) (fun _ hk => hk.2) (.slice Ao42 t225.length co42)) (fun _ hk => ⟨hk.1.1.1.1.1.1.1.1.1.1.1.1, ⟨hk.1.1.1.1.1.1.1.1.1.2, ⟨hk.1.1.1.1.1.1.1.1.2, ⟨hk.1.1.1.1.1.1.2, ⟨hk.1.1.1.1.1.2, ⟨hk.1.1.1.2, ⟨hk.1.1.2, ⟨hk.1.1.1.1.1.1.1.1.1.1.1.2, ⟨hk.1.1.1.1.1.1.1.2, ⟨hk.1.1.1.1.2, hk.1.2⟩⟩⟩⟩⟩⟩⟩⟩⟩⟩)⟩, ⟨by (with_reducible repeat (first | apply Kd.R_alloc | apply Kd.R_drewN | apply Kd.R_drew)); exact Kd.R_mono (Kd.R_far (p := ⟨gb229, 1, none⟩) (Kd.R_far (p := ⟨gb229, 0, none⟩) (Kd.R_types HO208.out BK229.out (by decide)) (fun _ hk => hk.2) (.slice Ao37 t222.length co37)) (fun _ hk => hk.2) (.slice Ao42 t225.length co42)) (fun _ hk => ⟨hk.1.1.1.2, ⟨hk.1.1.2, hk.1.2⟩⟩)⟩, ⟨by (with_reducible repeat (first | apply Kd.S_alloc | apply Kd.S_drewN | apply Kd.S_drew)); exact Kd.S_mono (Kd.S_far (p := ⟨gb229, 1, none⟩) (Kd.S_far (p := ⟨gb229, 0, none⟩) (Kd.S_types HO211.out BK229.out (by decide)) (fun _ hk => hk.2) (.slice Ao37 t222.length co37)) (fun _ hk => hk.2) (.slice Ao42 t225.length co42)) (fun _ hk => ⟨hk.1.1.1.1.1.2, ⟨hk.1.1.1.1.1.1, ⟨hk.1.1.1.1.2, ⟨hk.1.1.1.2, ⟨hk.1.1.2, hk.1.2⟩⟩⟩⟩⟩)⟩, ⟨by (with_reducible repeat (first | apply Kd.R_alloc | apply Kd.R_drewN | apply Kd.R_drew)); exact Kd.R_mono (Kd.R_far (p := ⟨gb229, 1, none⟩) (Kd.R_far (p := ⟨gb229, 0, none⟩) (Kd.R_types HO216.out BK229.out (by decide)) (fun _ hk => hk.2) (.slice Ao37 t222.length co37)) (fun _ hk => hk.2) (.slice Ao42 t225.length co42)) (fun _ hk => ⟨hk.1.1.1.2, ⟨hk.1.1.2, hk.1.2⟩⟩)⟩, ⟨by (with_reducible repeat (first | apply Kd.S_alloc | apply Kd.S_drewN | apply Kd.S_drew)); exact Kd.S_mono (Kd.S_far (p := ⟨gb229, 1, none⟩) (Kd.S_far (p := ⟨gb229, 0, none⟩) (Kd.S_types HO219.out BK229.out (by decide)) (fun _ hk => hk.2) (.slice Ao37 t222.length co37)) (fun _ hk => hk.2) (.slice Ao42 t225.length co42)) (fun _ hk => ⟨hk.1.1.1.1.1.2, ⟨hk.1.1.1.1.2, ⟨hk.1.1.1.2, ⟨hk.1.1.1.1.1.1, ⟨hk.1.1.2, hk.1.2⟩⟩⟩⟩⟩)⟩, ⟨by (with_reducible repeat (first | apply Kd.R_alloc | apply Kd.R_drewN | apply Kd.R_drew)); exact Kd.R_mono (Kd.R_far (p := ⟨gb229, 1, none⟩) (Kd.R_far (p := ⟨gb229, 0, none⟩) (Kd.R_types HO224.out BK229.out (by decide)) (fun _ hk => hk.2) (.slice Ao37 t222.length co37)) (fun _ hk => hk.2) (.slice Ao42 t225.length co42)) (fun _ hk => ⟨hk.1.1.1.2, ⟨hk.1.1.2, hk.1.2⟩⟩)⟩, ⟨by (with_reducible repeat (first | apply Kd.S_alloc | apply Kd.S_drewN | apply Kd.S_drew)); exact Kd.S_mono (Kd.S_far (p := ⟨gb229, 1, none⟩) (Kd.S_far (p := ⟨gb229, 0, none⟩) (Kd.S_types HO227.out BK229.out (by decide)) (fun _ hk => hk.2) (.slice Ao37 t222.length co37)) (fun _ hk => hk.2) (.slice Ao42 t225.length co42)) (fun _ hk => ⟨hk.1.1.1.1.1.2, ⟨hk.1.1.1.1.2, ⟨hk.1.1.1.2, ⟨hk.1.1.2, ⟨hk.1.2, hk.1.1.1.1.1.1⟩⟩⟩⟩⟩)⟩, ⟨by (with_reducible repeat (first | refine blk_drewN ?_ _ | refine blk_drew ?_ | refine blk_alloc ?_ _)); refine blk_far ?_ NB202_229.out _; (with_reducible repeat (first | refine blk_drewN ?_ _ | refine blk_drew ?_ | refine blk_alloc ?_ _)); refine blk_far ?_ NB202_229.out _; (with_reducible repeat (first | refine blk_drewN ?_ _ | refine blk_drew ?_ | refine blk_alloc ?_ _)); exact BK202.out⟩, ⟨by (with_reducible repeat (first | refine blk_drewN ?_ _ | refine blk_drew ?_ | refine blk_alloc ?_ _)); refine blk_far ?_ NB213_229.out _; (with_reducible repeat (first | refine blk_drewN ?_ _ | refine blk_drew ?_ | refine blk_alloc ?_ _)); refine blk_far ?_ NB213_229.out _; (with_reducible repeat (first | refine blk_drewN ?_ _ | refine blk_drew ?_ | refine blk_alloc ?_ _)); exact BK213.out⟩, ⟨by (with_reducible repeat (first | refine blk_drewN ?_ _ | refine blk_drew ?_ | refine blk_alloc ?_ _)); refine blk_far ?_ NB221_229.out _; (with_reducible repeat (first | refine blk_drewN ?_ _ | refine blk_drew ?_ | refine blk_alloc ?_ _)); refine blk_far ?_ NB221_229.out _; (with_reducible repeat (first | refine blk_drewN ?_ _ | refine blk_drew ?_ | refine blk_alloc ?_ _)); exact BK221.out⟩, ⟨by (with_reducible repeat (first | refine blk_drewN ?_ _ | refine blk_drew ?_ | refine blk_alloc ?_ _)); refine blk_put (cs := #[.slice Ao37 t222.length co37, .slice none 0 0]) ?_ 1 _ rfl; (with_reducible repeat (first | refine blk_drewN ?_ _ | refine blk_drew ?_ | refine blk_alloc ?_ _)); refine blk_put (cs := #[.slice none 0 0, .slice none 0 0]) ?_ 0 _ rfl; (with_reducible repeat (first | refine blk_drewN ?_ _ | refine blk_drew ?_ | refine blk_alloc ?_ _)); exact BK229.out⟩, ⟨by repeat (first | (with_reducible first | exact HB.out | apply below_alloc | apply pw_below_drewN | apply below_drew1 | refine below_set ?_ GE202.out | refine below_set ?_ GE213.out | refine below_set ?_ GE221.out | refine below_set ?_ GE229.out) | exact HB.out)⟩⟩
          · rw [if_neg c43] at H
            have c43b0 : (t212 == 0) = false := beq_eq_false_iff_ne.mpr c43
            have c43b1 : (t212 != 0) = true := bne_iff_ne.mpr c43
            (first | rw [c43b0] | (simp only [i64_w, i32_w]; rw [c43b0]) | skip)
            have H' := Aside0.mk H
            clear H
            go_wp2
            go_meet
            case rel => exact ⟨_, (true), (by first | rfl | (simp; done) | (simp [*]; done)), H', ⟨by have := HJ2.out; first | omega | exact Nat.le_refl _⟩, ⟨by (with_reducible repeat (first | apply Kd.R_alloc | apply Kd.R_drewN | apply Kd.R_drew)); exact Kd.R_mono (Kd.R_far (p := ⟨gb229, 1, none⟩) (Kd.R_far (p := ⟨gb229, 0, none⟩) (Kd.R_types HO198.out BK229.out (by decide)) (fun _ hk => hk.2) (.slice Ao37 t222.length co37)) (fun _ hk => hk.2) (.slice Ao42 t225.length co42)) (fun _ hk => ⟨hk.1.1.1.2, ⟨hk.1.1.2, hk.1.2⟩⟩)⟩, ⟨by (with_reducible repeat (first | apply Kd.V_alloc | apply Kd.V_drewN | apply Kd.V_drew)); exact Kd.V_mono (Kd.V_far (p := ⟨gb229, 1, none⟩) (Kd.V_far (p := ⟨gb229, 0, none⟩) (Kd.V_mono HO201.out (fun k_ hk => (⟨hk, hk.2⟩ : _ ∧ k_ ≠ gb229))) (fun _ hk => hk.2) (.slice Ao37 t222.length co37)) (fun _ hk => hk.2) (.slice Ao42 t225.length co42)) (fun _ hk => ⟨hk.1.1.1.1.1.1.1.1.1.1.1.1, ⟨hk.1.1.1.1.1.1.1.1.1.2, ⟨hk.1.1.1.1.1.1.1.1.2, ⟨hk.1.1.1.1.1.1.2, ⟨hk.1.1.1.1.1.2, ⟨hk.1.1.1.2, ⟨hk.1.1.2, ⟨hk.1.1.1.1.1.1.1.1.1.1.1.2, ⟨hk.1.1.1.1.1.1.1.2, ⟨hk.1.1.1.1.2, hk.1.2⟩⟩⟩⟩⟩⟩⟩⟩⟩⟩)⟩, ⟨by (with_reducible repeat (first | apply Kd.R_alloc | apply Kd.R_drewN | apply Kd.R_drew)); exact Kd.R_mono (Kd.R_far (p := ⟨gb229, 1, none⟩) (Kd.R_far (p := ⟨gb229, 0, none⟩) (Kd.R_types HO208.out BK229.out (by decide)) (fun _ hk => hk.2) (.slice Ao37 t222.length co37)) (fun _ hk => hk.2) (.slice Ao42 t225.length co42)) (fun _ hk => ⟨hk.1.1.1.2, ⟨hk.1.1.2, hk.1.2⟩⟩)⟩, ⟨by (with_reducible repeat (first | apply Kd.S_alloc | apply Kd.S_drewN | apply Kd.S_drew)); exact Kd.S_mono (Kd.S_far (p := ⟨gb229, 1, none⟩) (Kd.S_far (p := ⟨gb229, 0, none⟩) (Kd.S_types HO211.out BK229.out (by decide)) (fun _ hk => hk.2) (.slice Ao37 t222.length co37)) (fun _ hk => hk.2) (.slice Ao42 t225.length co42)) (fun _ hk => ⟨hk.1.1.1.1.1.2, ⟨hk.1.1.1.1.1.1, ⟨hk.1.1.1.1.2, ⟨hk.1.1.1.2, ⟨hk.1.1.2, hk.1.2⟩⟩⟩⟩⟩)⟩, ⟨by (with_reducible repeat (first | apply Kd.R_alloc | apply Kd.R_drewN | apply Kd.R_drew)); exact Kd.R_mono (Kd.R_far (p := ⟨gb229, 1, none⟩) (Kd.R_far (p := ⟨gb229, 0, none⟩) (Kd.R_types HO216.out BK229.out (by decide)) (fun _ hk => hk.2) (.slice Ao37 t222.length co37)) (fun _ hk => hk.2) (.slice Ao42 t225.length co42)) (fun _ hk => ⟨hk.1.1.1.2, ⟨hk.1.1.2, hk.1.2⟩⟩)⟩, ⟨by (with_reducible repeat (first | apply Kd.S_alloc | apply Kd.S_drewN | apply Kd.S_drew)); exact Kd.S_mono (Kd.S_far (p := ⟨gb229, 1, none⟩) (Kd.S_far (p := ⟨gb229, 0, none⟩) (Kd.S_types HO219.out BK229.out (by decide)) (fun _ hk => hk.2) (.slice Ao37 t222.length co37)) (fun _ hk => hk.2) (.slice Ao42 t225.length co42)) (fun _ hk => ⟨hk.1.1.1.1.1.2, ⟨hk.1.1.1.1.2, ⟨hk.1.1.1.2, ⟨hk.1.1.1.1.1.1, ⟨hk.1.1.2, hk.1.2⟩⟩⟩⟩⟩)⟩, ⟨by (with_reducible repeat (first | apply Kd.R_alloc | apply Kd.R_drewN | apply Kd.R_drew)); exact Kd.R_mono (Kd.R_far (p := ⟨gb229, 1, none⟩) (Kd.R_far (p := ⟨gb229, 0, none⟩) (Kd.R_types HO224.out BK229.out (by decide)) (fun _ hk => hk.2) (.slice Ao37 t222.length co37)) (fun _ hk => hk.2) (.slice Ao42 t225.length co42)) (fun _ hk => ⟨hk.1.1.1.2, ⟨hk.1.1.2, hk.1.2⟩⟩)⟩, ⟨by (with_reducible repeat (first | apply Kd.S_alloc | apply Kd.S_drewN | apply Kd.S_drew)); exact Kd.S_mono (Kd.S_far (p := ⟨gb229, 1, none⟩) (Kd.S_far (p := ⟨gb229, 0, none⟩) (Kd.S_types HO227.out BK229.out (by decide)) (fun _ hk => hk.2) (.slice Ao37 t222.length co37)) (fun _ hk => hk.2) (.slice Ao42 t225.length co42)) (fun _ hk => ⟨hk.1.1.1.1.1.2, ⟨hk.1.1.1.1.2, ⟨hk.1.1.1.2, ⟨hk.1.1.2, ⟨hk.1.2, hk.1.1.1.1.1.1⟩⟩⟩⟩⟩)⟩, ⟨by (with_reducible repeat (first | refine blk_drewN ?_ _ | refine blk_drew ?_ | refine blk_alloc ?_ _)); refine blk_far ?_ NB202_229.out _; (with_reducible repeat (first | refine blk_drewN ?_ _ | refine blk_drew ?_ | refine blk_alloc ?_ _)); refine blk_far ?_ NB202_229.out _; (with_reducible repeat (first | refine blk_drewN ?_ _ | refine blk_drew ?_ | refine blk_alloc ?_ _)); exact BK202.out⟩, ⟨by (with_reducible repeat (first | refine blk_drewN ?_ _ | refine blk_drew ?_ | refine blk_alloc ?_ _)); refine blk_far ?_ NB213_229.out _; (with_reducible repeat (first | refine blk_drewN ?_ _ | refine blk_drew ?_ | refine blk_alloc ?_ _)); refine blk_far ?_ NB213_229.out _; (with_reducible repeat (first | refine blk_drewN ?_ _ | refine blk_drew ?_ | refine blk_alloc ?_ _)); exact BK213.out⟩, ⟨by (with_reducible repeat (first | refine blk_drewN ?_ _ | refine blk_drew ?_ | refine blk_alloc ?_ _)); refine blk_far ?_ NB221_229.out _; (with_reducible repeat (first | refine blk_drewN ?_ _ | refine blk_drew ?_ | refine blk_alloc ?_ _)); refine blk_far ?_ NB221_229.out _; (with_reducible repeat (first | refine blk_drewN ?_ _ | refine blk_drew ?_ | refine blk_alloc ?_ _)); exact BK221.out⟩, ⟨by (with_reducible repeat (first | refine blk_drewN ?_ _ | refine blk_drew ?_ | refine blk_alloc ?_ _)); refine blk_put (cs := #[.slice Ao37 t222.length co37, .slice none 0 0]) ?_ 1 _ rfl; (with_reducible repeat (first | refine blk_drewN ?_ _ | refine blk_drew ?_ | refine blk_alloc ?_ _)); refine blk_put (cs := #[.slice none 0 0, .slice none 0 0]) ?_ 0 _ rfl; (with_reducible repeat (first | refine blk_drewN ?_ _ | refine blk_drew ?_ | refine blk_alloc ?_ _)); exact BK229.out⟩, ⟨by repeat (first | (with_reducible first | exact HB.out | apply below_alloc | apply pw_below_drewN | apply below_drew1 | refine below_set ?_ GE202.out | refine below_set ?_ GE213.out | refine below_set ?_ GE221.out | refine below_set ?_ GE229.out) | exact HB.out)⟩⟩
        case rest =>
          clear HC11
          try clear c1
          try clear c2
          try clear p2
          try clear c3
          try clear c4
          try clear c4b0
          try clear c4b1
          try clear c5
          try clear hcv5
          try clear c6
          try clear hcv6
          try clear c7
          try clear hcv7
          try clear c23
          try clear c30
          try clear c31
          try clear c38
          try clear c39
          try clear c40
          try clear c43
          try clear c43b0
          try clear c43b1
          try clear c44
          try clear c44b0
          try clear c44b1
          try clear c45
          try clear c45b0
          try clear c45b1
          try clear c46
          try clear c46b0
          try clear c46b1
          try clear c46b2
          try clear c47
          try clear c48
          try clear c49
          try clear hcv51
          try clear c52
          try clear c53
          try clear hcv55
          try clear c56
          try clear hcv58
          try clear hcv60
          try clear c61
          try clear c62
          try clear c63
          try clear hcv65
          try clear c66
          try clear c67
          try clear hcv69
          try clear c70
          try clear c71
          try clear c72
          try clear hcv74
          try clear c75
          try clear c76
          try clear hcv78
          try clear hcz15_0
          try clear hcz15_1
          try clear hcz18_0
          try clear hcz18_1
          try clear hcz24_0
          try clear hcz24_1
          try clear hcz26_0
          try clear hcz26_1
          try clear hcz32_0
          try clear hcz32_1
          try clear hcz34_0
          try clear hcz34_1
          try clear hcz41_0
          try clear hcz41_1
          try clear hcz50_0
          try clear hcz50_1
          try clear hcz54_0
          try clear hcz54_1
          try clear hcz57_0
          try clear hcz57_1
          try clear hcz59_0
          try clear hcz59_1
          try clear hcz64_0
          try clear hcz64_1
          try clear hcz68_0
          try clear hcz68_1
          try clear hcz73_0
          try clear hcz73_1
          try clear hcz77_0
          try clear hcz77_1
          try clear hfz15_0
          try clear hfz15_1
          try clear hfz18_0
          try clear hfz18_1
          try clear hfz24_0
          try clear hfz24_1
          try clear hfz26_0
          try clear hfz26_1
          try clear hfz32_0
          try clear hfz32_1
          try clear hfz34_0
          try clear hfz34_1
          try clear hfz41_0
          try clear hfz41_1
          try clear hfz50_0
          try clear hfz50_1
          try clear hfz54_0
          try clear hfz54_1
          try clear hfz57_0
          try clear hfz57_1
          try clear hfz59_0
          try clear hfz59_1
          try clear hfz64_0
          try clear hfz64_1
          try clear hfz68_0
          try clear hfz68_1
          try clear hfz73_0
          try clear hfz73_1
          try clear hfz77_0
          try clear hfz77_1
          try clear p2
          obtain ⟨kq, x75_10, rfl, HA, HJ10, HO_203000, HO_203001, HO_214000, HO_214001, HO_222000, HO_222001, HO_230000, HO_230001, BK202, BK213, BK221, BK229, HB⟩ := hcut
          cases kq with
          | zero => exact absurd HA.out (by simp [laws_FnCrash.j1])
          | succ kj10 =>
            have H := HA.out
            clear HA
            simp only [laws_FnCrash.j1] at H
            by_cases c79 : x75_10 = true
            · subst c79
              have H1 : (some false) = some r := by rw [if_pos rfl] at H; exact H
              clear H
              have H := H1
              clear H1
              obtain rfl := Option.some.inj H
              go_wp2
              go_ret
              exact ⟨by first | rfl | (simp [errW_none, errW_some] <;> rfl) | (simp [*, errW_none, errW_some] <;> rfl), by repeat (first | (with_reducible first | exact HB.out | apply below_alloc | apply pw_below_drewN | apply below_drew1 | refine below_set ?_ GE202.out | refine below_set ?_ GE213.out | refine below_set ?_ GE221.out | refine below_set ?_ GE229.out) | exact HB.out)⟩
            · replace c79 := Bool.eq_false_iff.mpr c79
              subst c79
              have H1 : (laws_FnCrash.l0 kj10 0 t196 t199 t206 t209) = some r := by rw [if_neg (show ¬ (false = true) by decide)] at H; exact H
              clear H
              have H := H1
              clear H1
              have H' := Aside0.mk H
              clear H
              go_wp2
              go_loopg [13] kj10 (fun kq v13 w' => ∃ (x13_3 : Int), v13 = .int .i64 x13_3 ∧ Aside0 (laws_FnCrash.l0 kq x13_3 t196 t199 t206 t209 = some r) ∧ Aside0 (kq ≤ kj10) ∧ Aside0 (Kd.R (Kd.int .u8) 5 w' w.heap.size (fun k_ => some k_ ≠ ((.slice Ao22 t206.length co22) : Value).ownBlock ∧ some k_ ≠ ((.slice Ao29 t214.length co29) : Value).ownBlock ∧ some k_ ≠ ((.slice Ao37 t222.length co37) : Value).ownBlock) (.slice Ao14 t196.length co14) t196) ∧ Aside0 (Kd.V k32 32 w' w.heap.size (fun k_ => some k_ ≠ ((.slice Ao14 t196.length co14) : Value).ownBlock ∧ some k_ ≠ ((.slice Ao22 t206.length co22) : Value).ownBlock ∧ some k_ ≠ ((.slice Ao25 t209.length co25) : Value).ownBlock ∧ some k_ ≠ ((.slice Ao29 t214.length co29) : Value).ownBlock ∧ some k_ ≠ ((.slice Ao33 t217.length co33) : Value).ownBlock ∧ some k_ ≠ ((.slice Ao37 t222.length co37) : Value).ownBlock ∧ some k_ ≠ ((.slice Ao42 t225.length co42) : Value).ownBlock ∧ k_ ≠ gb202 ∧ k_ ≠ gb213 ∧ k_ ≠ gb221 ∧ k_ ≠ gb229) (.slice Ao16 t199.length co16) t199) ∧ Aside0 (Kd.R (Kd.int .u8) 5 w' w.heap.size (fun k_ => some k_ ≠ ((.slice Ao14 t196.length co14) : Value).ownBlock ∧ some k_ ≠ ((.slice Ao29 t214.length co29) : Value).ownBlock ∧ some k_ ≠ ((.slice Ao37 t222.length co37) : Value).ownBlock) (.slice Ao22 t206.length co22) t206) ∧ Aside0 (Kd.S k32 32 w' w.heap.size (fun k_ => some k_ ≠ ((.slice Ao14 t196.length co14) : Value).ownBlock ∧ some k_ ≠ ((.slice Ao22 t206.length co22) : Value).ownBlock ∧ some k_ ≠ ((.slice Ao29 t214.length co29) : Value).ownBlock ∧ some k_ ≠ ((.slice Ao33 t217.length co33) : Value).ownBlock ∧ some k_ ≠ ((.slice Ao37 t222.length co37) : Value).ownBlock ∧ some k_ ≠ ((.slice Ao42 t225.length co42) : Value).ownBlock) (.slice Ao25 t209.length co25) t209) ∧ Aside0 (Kd.R (Kd.int .u8) 5 w' w.heap.size (fun k_ => some k_ ≠ ((.slice Ao14 t196.length co14) : Value).ownBlock ∧ some k_ ≠ ((.slice Ao22 t206.length co22) : Value).ownBlock ∧ some k_ ≠ ((.slice Ao37 t222.length co37) : Value).ownBlock) (.slice Ao29 t214.length co29) t214) ∧ Aside0 (Kd.S k32 32 w' w.heap.size (fun k_ => some k_ ≠ ((.slice Ao14 t196.length co14) : Value).ownBlock ∧ some k_ ≠ ((.slice Ao22 t206.length co22) : Value).ownBlock ∧ some k_ ≠ ((.slice Ao25 t209.length co25) : Value).ownBlock ∧ some k_ ≠ ((.slice Ao29 t214.length co29) : Value).ownBlock ∧ some k_ ≠ ((.slice Ao37 t222.length co37) : Value).ownBlock ∧ some k_ ≠ ((.slice Ao42 t225.length co42) : Value).ownBlock) (.slice Ao33 t217.length co33) t217) ∧ Aside0 (Kd.R (Kd.int .u8) 5 w' w.heap.size (fun k_ => some k_ ≠ ((.slice Ao14 t196.length co14) : Value).ownBlock ∧ some k_ ≠ ((.slice Ao22 t206.length co22) : Value).ownBlock ∧ some k_ ≠ ((.slice Ao29 t214.length co29) : Value).ownBlock) (.slice Ao37 t222.length co37) t222) ∧ Aside0 (Kd.S k32 32 w' w.heap.size (fun k_ => some k_ ≠ ((.slice Ao14 t196.length co14) : Value).ownBlock ∧ some k_ ≠ ((.slice Ao22 t206.length co22) : Value).ownBlock ∧ some k_ ≠ ((.slice Ao25 t209.length co25) : Value).ownBlock ∧ some k_ ≠ ((.slice Ao29 t214.length co29) : Value).ownBlock ∧ some k_ ≠ ((.slice Ao33 t217.length co33) : Value).ownBlock ∧ some k_ ≠ ((.slice Ao37 t222.length co37) : Value).ownBlock) (.slice Ao42 t225.length co42) t225) ∧ Aside0 (w'.heap[gb202]? = some (.cells #[(.slice Ao14 t196.length co14), (.slice Ao16 t199.length co16)] 25 (0, 0))) ∧ Aside0 (w'.heap[gb213]? = some (.cells #[(.slice Ao22 t206.length co22), (.slice Ao25 t209.length co25)] 25 (0, 0))) ∧ Aside0 (w'.heap[gb221]? = some (.cells #[(.slice Ao29 t214.length co29), (.slice Ao33 t217.length co33)] 25 (0, 0))) ∧ Aside0 (w'.heap[gb229]? = some (.cells #[(.slice Ao37 t222.length co37), (.slice Ao42 t225.length co42)] 25 (0, 0))) ∧ Aside0 (Below w.heap.size w w'))
              case atStart => exact ⟨(0), (by first | rfl | (simp; done) | (simp [*]; done)), H', ⟨Nat.le_refl _⟩, ⟨by (with_reducible repeat (first | apply Kd.R_alloc | apply Kd.R_drewN | apply Kd.R_drew)); exact HO_203000.out⟩, ⟨by (with_reducible repeat (first | apply Kd.V_alloc | apply Kd.V_drewN | apply Kd.V_drew)); exact HO_203001.out⟩, ⟨by (with_reducible repeat (first | apply Kd.R_alloc | apply Kd.R_drewN | apply Kd.R_drew)); exact HO_214000.out⟩, ⟨by (with_reducible repeat (first | apply Kd.S_alloc | apply Kd.S_drewN | apply Kd.S_drew)); exact HO_214001.out⟩, ⟨by (with_reducible repeat (first | apply Kd.R_alloc | apply Kd.R_drewN | apply Kd.R_drew)); exact HO_222000.out⟩, ⟨by (with_reducible repeat (first | apply Kd.S_alloc | apply Kd.S_drewN | apply Kd.S_drew)); exact HO_222001.out⟩, ⟨by (with_reducible repeat (first | apply Kd.R_alloc | apply Kd.R_drewN | apply Kd.R_drew)); exact HO_230000.out⟩, ⟨by (with_reducible repeat (first | apply Kd.S_alloc | apply Kd.S_drewN | apply Kd.S_drew)); exact HO_230001.out⟩, ⟨by (with_reducible repeat (first | refine blk_drewN ?_ _ | refine blk_drew ?_ | refine blk_alloc ?_ _)); exact BK202.out⟩, ⟨by (with_reducible repeat (first | refine blk_drewN ?_ _ | refine blk_drew ?_ | refine blk_alloc ?_ _)); exact BK213.out⟩, ⟨by (with_reducible repeat (first | refine blk_drewN ?_ _ | refine blk_drew ?_ | refine blk_alloc ?_ _)); exact BK221.out⟩, ⟨by (with_reducible repeat (first | refine blk_drewN ?_ _ | refine blk_drew ?_ | refine blk_alloc ?_ _)); exact BK229.out⟩, ⟨by repeat (first | (with_reducible first | exact HB.out | apply below_alloc | apply pw_below_drewN | apply below_drew1 | refine below_set ?_ GE202.out | refine below_set ?_ GE213.out | refine below_set ?_ GE221.out | refine below_set ?_ GE229.out) | exact HB.out)⟩⟩
              case round =>
                clear H'
                try clear c1
                try clear c2
                try clear p2
                try clear c3
                try clear c4
                try clear c4b0
                try clear c4b1
                try clear c5
                try clear hcv5
                try clear c6
                try clear hcv6
                try clear c7
                try clear hcv7
                try clear c23
                try clear c30
                try clear c31
                try clear c38
                try clear c39
                try clear c40
                try clear c43
                try clear c43b0
                try clear c43b1
                try clear c44
                try clear c44b0
                try clear c44b1
                try clear c45
                try clear c45b0
                try clear c45b1
                try clear c46
                try clear c46b0
                try clear c46b1
                try clear c46b2
                try clear c47
                try clear c48
                try clear c49
                try clear hcv51
                try clear c52
                try clear c53
                try clear hcv55
                try clear c56
                try clear hcv58
                try clear hcv60
                try clear c61
                try clear c62
                try clear c63
                try clear hcv65
                try clear c66
                try clear c67
                try clear hcv69
                try clear c70
                try clear c71
                try clear c72
                try clear hcv74
                try clear c75
                try clear c76
                try clear hcv78
                try clear c79
                try clear hcz15_0
                try clear hcz15_1
                try clear hcz18_0
                try clear hcz18_1
                try clear hcz24_0
                try clear hcz24_1
                try clear hcz26_0
                try clear hcz26_1
                try clear hcz32_0
                try clear hcz32_1
                try clear hcz34_0
                try clear hcz34_1
                try clear hcz41_0
                try clear hcz41_1
                try clear hcz50_0
                try clear hcz50_1
                try clear hcz54_0
                try clear hcz54_1
                try clear hcz57_0
                try clear hcz57_1
                try clear hcz59_0
                try clear hcz59_1
                try clear hcz64_0
                try clear hcz64_1
                try clear hcz68_0
                try clear hcz68_1
                try clear hcz73_0
                try clear hcz73_1
                try clear hcz77_0
                try clear hcz77_1
                try clear hfz15_0
                try clear hfz15_1
                try clear hfz18_0
                try clear hfz18_1
                try clear hfz24_0
                try clear hfz24_1
                try clear hfz26_0
                try clear hfz26_1
                try clear hfz32_0
                try clear hfz32_1
                try clear hfz34_0
                try clear hfz34_1
                try clear hfz41_0
                try clear hfz41_1
                try clear hfz50_0
                try clear hfz50_1
                try clear hfz54_0
                try clear hfz54_1
                try clear hfz57_0
                try clear hfz57_1
                try clear hfz59_0
                try clear hfz59_1
                try clear hfz64_0
                try clear hfz64_1
                try clear hfz68_0
                try clear hfz68_1
                try clear hfz73_0
                try clear hfz73_1
                try clear hfz77_0
                try clear hfz77_1
                try clear p2
                obtain ⟨x13_3, rfl, HA, HK3, HO_203000, HO_203001, HO_214000, HO_214001, HO_222000, HO_222001, HO_230000, HO_230001, BK202, BK213, BK221, BK229, HB⟩ := hrel
                cases gk with
                | zero => exact absurd HA.out (by simp [laws_FnCrash.l0])
                | succ k3 =>
                  have H := HA.out
                  clear HA
                  simp only [laws_FnCrash.l0] at H
                  by_cases c80 : (wrap64 (x13_3 * 32)) < (t206.length : Int)
                  · rw [if_pos c80] at H
                    have c80b0 : decide ((wrap64 (x13_3 * 32)) < (t206.length : Int)) = true := decide_eq_true c80
                    clear c80
                    obtain ⟨ji81, hji81⟩ : ∃ j_ : Int, (wrap64 (x13_3 * 32)) = j_ := ⟨_, rfl⟩
                    replace H : (if 0 ≤ (ji81) then (if (ji81) ≤ (wrap64 ((wrap64 (x13_3 + 1)) * 32)) then (if (wrap64 ((wrap64 (x13_3 + 1)) * 32)) ≤ (t206.length : Int) then ((some ((t206.take ((wrap64 ((wrap64 (x13_3 + 1)) * 32)) : Int).toNat).drop ((ji81) : Int).toNat : List Int)).bind fun y230 => (if 32 ≤ 281474976710656 then (if (wrap64 ((wrap64 (x13_3 + 1)) * 32)) ≤ (t196.length : Int) then (laws_FnCrash.j3 k3 x13_3 (strOfNums y230) ((strOfNums y230).toList == (strOfNums ((t196.take ((wrap64 ((wrap64 (x13_3 + 1)) * 32)) : Int).toNat).drop ((ji81) : Int).toNat)).toList) t196 t199 t206 t209) else (laws_FnCrash.j3 k3 x13_3 (strOfNums y230) ((strOfNums y230).toList == (strOfNums (List.replicate 32 0)).toList) t196 t199 t206 t209)) else (none))) else (none)) else (none)) else (none)) = some r := by first | (rw [hji81] at H; exact H) | (simp only [hji81] at H ⊢; exact H)
                    (try rw [hji81] at c80b0)
                    have hji81w : (IntKind.i64.wrap (x13_3 * 32)) = ji81 := (i64_w _).trans hji81
                    by_cases c82 : 0 ≤ (ji81)
                    · rw [if_pos c82] at H
                      have c82b0 := eq_true c82
                      have c82b1 : decide (0 ≤ (ji81)) = true := decide_eq_true c82
                      clear c82
                      by_cases c83 : (ji81) ≤ (wrap64 ((wrap64 (x13_3 + 1)) * 32))
                      · rw [if_pos c83] at H
                        have c83b0 := eq_true c83
                        have c83b1 : decide ((ji81) ≤ (wrap64 ((wrap64 (x13_3 + 1)) * 32))) = true := decide_eq_true c83
                        by_cases c84 : (wrap64 ((wrap64 (x13_3 + 1)) * 32)) ≤ (t206.length : Int)
                        · rw [if_pos c84] at H
                          have c84b0 := eq_true c84
                          have c84b1 : decide ((wrap64 ((wrap64 (x13_3 + 1)) * 32)) ≤ (t206.length : Int)) = true := decide_eq_true c84
                          obtain ⟨y230, hy230⟩ : ∃ y_ : List Int, y_ = ((t206.take ((wrap64 ((wrap64 (x13_3 + 1)) * 32)) : Int).toNat).drop ((ji81) : Int).toNat) := ⟨_, rfl⟩
                          replace H : (if 32 ≤ 281474976710656 then (if (wrap64 ((wrap64 (x13_3 + 1)) * 32)) ≤ (t196.length : Int) then (laws_FnCrash.j3 k3 x13_3 (strOfNums y230) ((strOfNums y230).toList == (strOfNums ((t196.take ((wrap64 ((wrap64 (x13_3 + 1)) * 32)) : Int).toNat).drop ((ji81) : Int).toNat)).toList) t196 t199 t206 t209) else (laws_FnCrash.j3 k3 x13_3 (strOfNums y230) ((strOfNums y230).toList == (strOfNums (List.replicate 32 0)).toList) t196 t199 t206 t209)) else (none)) = some r := by first | (rw [hy230]; with_reducible exact H) | (have H2_ := (Option.bind_some _ _).symm.trans H; rw [hy230]; with_reducible exact H2_) | (have H2_ := (Option.bind_some _ _).symm.trans H; with_reducible exact H2_) | with_reducible exact H | (rw [hy230]; exact H) | exact H
                          have Ny230 := Aside0.mk hy230
                          clear hy230
                          by_cases c85 : 32 ≤ 281474976710656
                          · rw [if_pos c85] at H
                            have c85b0 := eq_true c85
                            have c85b1 : decide (32 ≤ 281474976710656) = true := decide_eq_true c85
                            clear c85
                            obtain ⟨y234, hy234⟩ : ∃ y_ : List Int, y_ = (List.replicate 32 0) := ⟨_, rfl⟩
                            replace H : (if (wrap64 ((wrap64 (x13_3 + 1)) * 32)) ≤ (t196.length : Int) then (laws_FnCrash.j3 k3 x13_3 (strOfNums y230) ((strOfNums y230).toList == (strOfNums ((t196.take ((wrap64 ((wrap64 (x13_3 + 1)) * 32)) : Int).toNat).drop ((ji81) : Int).toNat)).toList) t196 t199 t206 t209) else (laws_FnCrash.j3 k3 x13_3 (strOfNums y230) ((strOfNums y230).toList == (strOfNums y234).toList) t196 t199 t206 t209)) = some r := by first | (rw [hy234]; with_reducible exact H) | (have H2_ := (Option.bind_some _ _).symm.trans H; rw [hy234]; with_reducible exact H2_) | (have H2_ := (Option.bind_some _ _).symm.trans H; with_reducible exact H2_) | with_reducible exact H | (rw [hy234]; exact H) | exact H
                            have Ny234 := Aside0.mk hy234
                            clear hy234
                            have HC86 := Aside0.mk H
                            clear H
                            have hnb87 := NB213_202.out
                            have hnc87 := NB202_213.out
                            have hnb88 := NB213_221.out
                            have hnc88 := NB221_213.out
                            have hnb89 := NB213_229.out
                            have hnc89 := NB229_213.out
                            have hcz90_0 : wr.cell? ⟨gb213, 0, none⟩ = some (.slice Ao22 t206.length co22) := (blk_cell BK213.out 0).trans rfl
                            have hcz90_1 : wr.cell? ⟨gb213, 1, none⟩ = some (.slice Ao25 t209.length co25) := (blk_cell BK213.out 1).trans rfl
                            have hfz90_0 := blk_frozen BK213.out 0
                            have hfz90_1 := blk_frozen BK213.out 1
                            have q91 : ((wrap64 ((wrap64 (x13_3 + 1)) * 32)) : Int) ≤ ((t206.length : Int) : Int) := of_decide_eq_true (by first | (with_reducible assumption) | assumption)
                            obtain ⟨i091, hi091, _, hsz91, _⟩ := info_parts info5
                            have hroom91 : t206.length ≤ co22 := (Kd.R_reads' HO_214000.out).2.1
                            have hC91 : Kd.C (Kd.int .u8) _ Ao22 t206.length t206 := (Kd.R_reads' HO_214000.out).2.2
                            have ql91 : ((ji81) : Int) ≤ ((wrap64 ((wrap64 (x13_3 + 1)) * 32)) : Int) := of_decide_eq_true (by first | (with_reducible assumption) | assumption)
                            have q091 : (0 : Int) ≤ ((ji81) : Int) := of_decide_eq_true (by first | (with_reducible assumption) | assumption)
                            have hcut91 := cut_mid (P := Try.prog) 22 5 .i64 .i64 Try.underlying22 hi091 1 hsz91 Ao22 t206.length co22 (ji81) (wrap64 ((wrap64 (x13_3 + 1)) * 32)) q091 ql91 q91 hroom91
                            have hr91 := Kd.C_mid (lo := ((ji81) : Int).toNat) (hi := ((wrap64 ((wrap64 (x13_3 + 1)) * 32)) : Int).toNat) (c := co22) hC91 (by omega) (by omega) hroom91
                            obtain ⟨A91, hA91⟩ : ∃ A1, A1 = (if co22 = ((ji81) : Int).toNat then Ao22 else (Ao22 : Option Addr).map (·.add (((ji81) : Int).toNat * 1))) := ⟨_, rfl⟩
                            obtain ⟨c91, hc91⟩ : ∃ c1, c1 = co22 - ((ji81) : Int).toNat := ⟨_, rfl⟩
                            have hy91 : y230.length = ((wrap64 ((wrap64 (x13_3 + 1)) * 32)) : Int).toNat - ((ji81) : Int).toNat := (by rw [Ny230.out, List.length_drop, List.length_take] <;> omega)
                            rw [show ((t206).take ((wrap64 ((wrap64 (x13_3 + 1)) * 32)) : Int).toNat).drop ((ji81) : Int).toNat = y230 from Ny230.out.symm] at hr91
                            replace hr91 : Kd.C (Kd.int .u8) _ A91 y230.length y230 := (by rw [hA91]; exact hr91)
                            rw [← hy91, ← hA91, ← hc91] at hcut91
                            have HR233 := Aside0.mk hr91
                            have HC233 := Aside0.mk (show y230.length ≤ c91 from by rw [hy91, hc91]; exact Nat.sub_le_sub_right (Nat.le_trans (by omega) hroom91) _)
                            clear hr91 hC91 hroom91 hi091 hsz91 hc91
                            have KY91 := Aside0.mk hy91
                            have KA91 := Aside0.mk hA91
                            clear hy91 hA91
                            have KL91 := Aside0.mk (show ((wrap64 ((wrap64 (x13_3 + 1)) * 32)) : Int).toNat ≤ t206.length from by omega)
                            have KM91 := Aside0.mk (show ((ji81) : Int).toNat ≤ ((wrap64 ((wrap64 (x13_3 + 1)) * 32)) : Int).toNat from by omega)
                            replace q91 := eq_true q91
                            have hcv92 := Kd.C_string (P := Try.prog) (A := A91) (c := c91) Try.underlying22 Try.underlying5 Try.underlying9 (by repeat (first | (with_reducible exact HR233.out) | (with_reducible refine Kd.C_alloc ?_ _) | (with_reducible refine Kd.C_drewN ?_ _) | (with_reducible refine Kd.C_drew ?_) | exact HR233.out))
                            go_upto_if 103 with (first | ((with_reducible refine gate_dst (N := 94) rfl ?_); (try (refine gate_guard (by rfl) ?_; dsimp only)); refine Kd.R_make (Kd.int .u8) _ 5 rfl (N := 94) rfl 22 _ _ rfl 32 rfl rfl Try.underlying22 (.int .u8 0) 1 info5 rfl (by decide) (by omega) 0 (ok := fun _ => True) (okp := fun _ => True) rfl (fun _ hk => hk) trivial (by omega) (by omega) (Below.refl _ _) (Nat.le_refl _) ?_; intro v235 w93 ho94 hb hg_ hnew_; clear hg_ hnew_; (first | rw [← Ny234.out] at ho94 | (simp only [Int.reduceToNat] at ho94; rw [← Ny234.out] at ho94)); have n0_ := Aside0.mk (Kd.R_elder' (by (with_reducible repeat (first | apply Kd.R_alloc | apply Kd.R_drewN | apply Kd.R_drew)); exact HO_203000.out) (Kd.R_base ho94) hb); have n1_ := Aside0.mk (Kd.V_elder' (by (with_reducible repeat (first | apply Kd.V_alloc | apply Kd.V_drewN | apply Kd.V_drew)); exact HO_203001.out) (Kd.R_base ho94) hb); have n2_ := Aside0.mk (Kd.R_elder' (by (with_reducible repeat (first | apply Kd.R_alloc | apply Kd.R_drewN | apply Kd.R_drew)); exact HO_214000.out) (Kd.R_base ho94) hb); have n3_ := Aside0.mk (Kd.S_elder' (by (with_reducible repeat (first | apply Kd.S_alloc | apply Kd.S_drewN | apply Kd.S_drew)); exact HO_214001.out) (Kd.R_base ho94) hb); have n4_ := Aside0.mk (Kd.R_elder' (by (with_reducible repeat (first | apply Kd.R_alloc | apply Kd.R_drewN | apply Kd.R_drew)); exact HO_222000.out) (Kd.R_base ho94) hb); have n5_ := Aside0.mk (Kd.S_elder' (by (with_reducible repeat (first | apply Kd.S_alloc | apply Kd.S_drewN | apply Kd.S_drew)); exact HO_222001.out) (Kd.R_base ho94) hb); have n6_ := Aside0.mk (Kd.R_elder' (by (with_reducible repeat (first | apply Kd.R_alloc | apply Kd.R_drewN | apply Kd.R_drew)); exact HO_230000.out) (Kd.R_base ho94) hb); have n7_ := Aside0.mk (Kd.S_elder' (by (with_reducible repeat (first | apply Kd.S_alloc | apply Kd.S_drewN | apply Kd.S_drew)); exact HO_230001.out) (Kd.R_base ho94) hb); have n8_ := Aside0.mk (Kd.R_lower (Kd.R_new' (Kd.R_new' (Kd.R_new' (Kd.R_new' ho94 (Kd.R_lt (by (with_reducible repeat (first | apply Kd.R_alloc | apply Kd.R_drewN | apply Kd.R_drew)); exact HO_203000.out))) (Kd.R_lt (by (with_reducible repeat (first | apply Kd.R_alloc | apply Kd.R_drewN | apply Kd.R_drew)); exact HO_214000.out))) (Kd.R_lt (by (with_reducible repeat (first | apply Kd.R_alloc | apply Kd.R_drewN | apply Kd.R_drew)); exact HO_222000.out))) (Kd.R_lt (by (with_reducible repeat (first | apply Kd.R_alloc | apply Kd.R_drewN | apply Kd.R_drew)); exact HO_230000.out))) (below_size (by repeat (first | (with_reducible first | exact HB.out | apply below_alloc | apply pw_below_drewN | apply below_drew1 | refine below_set ?_ GE202.out | refine below_set ?_ GE213.out | refine below_set ?_ GE221.out | refine below_set ?_ GE229.out) | exact HB.out)))); have n9_ := Aside0.mk (blk_below (g := gb202) (o := .cells #[.slice Ao14 t196.length co14, .slice Ao16 t199.length co16] 25 (0, 0)) (by (with_reducible repeat (first | refine blk_drewN ?_ _ | refine blk_drew ?_ | refine blk_alloc ?_ _)); exact BK202.out) hb); have n10_ := Aside0.mk (blk_below (g := gb213) (o := .cells #[.slice Ao22 t206.length co22, .slice Ao25 t209.length co25] 25 (0, 0)) (by (with_reducible repeat (first | refine blk_drewN ?_ _ | refine blk_drew ?_ | refine blk_alloc ?_ _)); exact BK213.out) hb); have n11_ := Aside0.mk (blk_below (g := gb221) (o := .cells #[.slice Ao29 t214.length co29, .slice Ao33 t217.length co33] 25 (0, 0)) (by (with_reducible repeat (first | refine blk_drewN ?_ _ | refine blk_drew ?_ | refine blk_alloc ?_ _)); exact BK221.out) hb); have n12_ := Aside0.mk (blk_below (g := gb229) (o := .cells #[.slice Ao37 t222.length co37, .slice Ao42 t225.length co42] 25 (0, 0)) (by (with_reducible repeat (first | refine blk_drewN ?_ _ | refine blk_drew ?_ | refine blk_alloc ?_ _)); exact BK229.out) hb); have n13_ := Aside0.mk (Kd.C_below (by repeat (first | (with_reducible exact HR233.out) | (with_reducible refine Kd.C_alloc ?_ _) | (with_reducible refine Kd.C_drewN ?_ _) | (with_reducible refine Kd.C_drew ?_) | exact HR233.out)) hb); have n14_ := Aside0.mk (below_step (by repeat (first | (with_reducible first | exact HB.out | apply below_alloc | apply pw_below_drewN | apply below_drew1 | refine below_set ?_ GE202.out | refine below_set ?_ GE213.out | refine below_set ?_ GE221.out | refine below_set ?_ GE229.out) | exact HB.out)) hb); clear HO_203000; clear HO_203001; clear HO_214000; clear HO_214001; clear HO_222000; clear HO_222001; clear HO_230000; clear HO_230001; clear BK202; clear BK213; clear BK221; clear BK229; clear HR233; clear HB; have HO_203000 := n0_; have HO_203001 := n1_; have HO_214000 := n2_; have HO_214001 := n3_; have HO_222000 := n4_; have HO_222001 := n5_; have HO_230000 := n6_; have HO_230001 := n7_; have HO236 := n8_; have BK202 := n9_; have BK213 := n10_; have BK221 := n11_; have BK229 := n12_; have HR233 := n13_; have HB := n14_; clear n0_ n1_ n2_ n3_ n4_ n5_ n6_ n7_ n8_ n9_ n10_ n11_ n12_ n13_ n14_; clear hb ho94; have hcv95 := own_string (P := Try.prog) Try.underlying22 Try.underlying5 Try.underlying9 (Kd.own_of_R HO236.out); have hnb96 := NB202_221.out; have hnc96 := NB221_202.out; have hnb97 := NB202_229.out; have hnc97 := NB229_202.out; have hcz98_0 : w93.cell? ⟨gb202, 0, none⟩ = some (.slice Ao14 t196.length co14) := (blk_cell BK202.out 0).trans rfl; have hcz98_1 : w93.cell? ⟨gb202, 1, none⟩ = some (.slice Ao16 t199.length co16) := (blk_cell BK202.out 1).trans rfl; have hfz98_0 := blk_frozen BK202.out 0; have hfz98_1 := blk_frozen BK202.out 1))
                            (try simp only [Act.put, List.setIfInBounds_toArray, List.set_cons_zero, List.set_cons_succ])
                            go_cut [15] (fun v15 wc => ∃ (kq : Nat) (x15_85 : Bool), v15 = .bool x15_85 ∧ Aside0 (laws_FnCrash.j3 kq x13_3 (strOfNums y230) x15_85 t196 t199 t206 t209 = some r) ∧ Aside0 (kq ≤ k3) ∧ Aside0 (Kd.R (Kd.int .u8) 5 wc w.heap.size (fun k_ => some k_ ≠ ((.slice Ao22 t206.length co22) : Value).ownBlock ∧ some k_ ≠ ((.slice Ao29 t214.length co29) : Value).ownBlock ∧ some k_ ≠ ((.slice Ao37 t222.length co37) : Value).ownBlock) (.slice Ao14 t196.length co14) t196) ∧ Aside0 (Kd.V k32 32 wc w.heap.size (fun k_ => some k_ ≠ ((.slice Ao14 t196.length co14) : Value).ownBlock ∧ some k_ ≠ ((.slice Ao22 t206.length co22) : Value).ownBlock ∧ some k_ ≠ ((.slice Ao25 t209.length co25) : Value).ownBlock ∧ some k_ ≠ ((.slice Ao29 t214.length co29) : Value).ownBlock ∧ some k_ ≠ ((.slice Ao33 t217.length co33) : Value).ownBlock ∧ some k_ ≠ ((.slice Ao37 t222.length co37) : Value).ownBlock ∧ some k_ ≠ ((.slice Ao42 t225.length co42) : Value).ownBlock ∧ k_ ≠ gb202 ∧ k_ ≠ gb213 ∧ k_ ≠ gb221 ∧ k_ ≠ gb229) (.slice Ao16 t199.length co16) t199) ∧ Aside0 (Kd.R (Kd.int .u8) 5 wc w.heap.size (fun k_ => some k_ ≠ ((.slice Ao14 t196.length co14) : Value).ownBlock ∧ some k_ ≠ ((.slice Ao29 t214.length co29) : Value).ownBlock ∧ some k_ ≠ ((.slice Ao37 t222.length co37) : Value).ownBlock) (.slice Ao22 t206.length co22) t206) ∧ Aside0 (Kd.S k32 32 wc w.heap.size (fun k_ => some k_ ≠ ((.slice Ao14 t196.length co14) : Value).ownBlock ∧ some k_ ≠ ((.slice Ao22 t206.length co22) : Value).ownBlock ∧ some k_ ≠ ((.slice Ao29 t214.length co29) : Value).ownBlock ∧ some k_ ≠ ((.slice Ao33 t217.length co33) : Value).ownBlock ∧ some k_ ≠ ((.slice Ao37 t222.length co37) : Value).ownBlock ∧ some k_ ≠ ((.slice Ao42 t225.length co42) : Value).ownBlock) (.slice Ao25 t209.length co25) t209) ∧ Aside0 (Kd.R (Kd.int .u8) 5 wc w.heap.size (fun k_ => some k_ ≠ ((.slice Ao14 t196.length co14) : Value).ownBlock ∧ some k_ ≠ ((.slice Ao22 t206.length co22) : Value).ownBlock ∧ some k_ ≠ ((.slice Ao37 t222.length co37) : Value).ownBlock) (.slice Ao29 t214.length co29) t214) ∧ Aside0 (Kd.S k32 32 wc w.heap.size (fun k_ => some k_ ≠ ((.slice Ao14 t196.length co14) : Value).ownBlock ∧ some k_ ≠ ((.slice Ao22 t206.length co22) : Value).ownBlock ∧ some k_ ≠ ((.slice Ao25 t209.length co25) : Value).ownBlock ∧ some k_ ≠ ((.slice Ao29 t214.length co29) : Value).ownBlock ∧ some k_ ≠ ((.slice Ao37 t222.length co37) : Value).ownBlock ∧ some k_ ≠ ((.slice Ao42 t225.length co42) : Value).ownBlock) (.slice Ao33 t217.length co33) t217) ∧ Aside0 (Kd.R (Kd.int .u8) 5 wc w.heap.size (fun k_ => some k_ ≠ ((.slice Ao14 t196.length co14) : Value).ownBlock ∧ some k_ ≠ ((.slice Ao22 t206.length co22) : Value).ownBlock ∧ some k_ ≠ ((.slice Ao29 t214.length co29) : Value).ownBlock) (.slice Ao37 t222.length co37) t222) ∧ Aside0 (Kd.S k32 32 wc w.heap.size (fun k_ => some k_ ≠ ((.slice Ao14 t196.length co14) : Value).ownBlock ∧ some k_ ≠ ((.slice Ao22 t206.length co22) : Value).ownBlock ∧ some k_ ≠ ((.slice Ao25 t209.length co25) : Value).ownBlock ∧ some k_ ≠ ((.slice Ao29 t214.length co29) : Value).ownBlock ∧ some k_ ≠ ((.slice Ao33 t217.length co33) : Value).ownBlock ∧ some k_ ≠ ((.slice Ao37 t222.length co37) : Value).ownBlock) (.slice Ao42 t225.length co42) t225) ∧ Aside0 (wc.heap[gb202]? = some (.cells #[(.slice Ao14 t196.length co14), (.slice Ao16 t199.length co16)] 25 (0, 0))) ∧ Aside0 (wc.heap[gb213]? = some (.cells #[(.slice Ao22 t206.length co22), (.slice Ao25 t209.length co25)] 25 (0, 0))) ∧ Aside0 (wc.heap[gb221]? = some (.cells #[(.slice Ao29 t214.length co29), (.slice Ao33 t217.length co33)] 25 (0, 0))) ∧ Aside0 (wc.heap[gb229]? = some (.cells #[(.slice Ao37 t222.length co37), (.slice Ao42 t225.length co42)] 25 (0, 0))) ∧ Aside0 (Kd.C (Kd.int .u8) wc A91 y230.length y230) ∧ Aside0 (Below w.heap.size w wc))
                            case first =>
                              have H := HC86.out
                              clear HC86
                              by_cases c99 : (wrap64 ((wrap64 (x13_3 + 1)) * 32)) ≤ (t196.length : Int)
                              · rw [if_pos c99] at H
                                have c99b0 : decide ((wrap64 ((wrap64 (x13_3 + 1)) * 32)) ≤ (t196.length : Int)) = true := decide_eq_true c99
                                clear c99
                                (first | rw [c99b0] | (simp only [i64_w, i32_w]; rw [c99b0]) | skip)
                                have c100b0 := eq_true (of_decide_eq_true (by first | (with_reducible assumption) | assumption) : 0 ≤ (ji81))
                                have c101b0 := eq_true (of_decide_eq_true (by first | (with_reducible assumption) | assumption) : (ji81) ≤ (wrap64 ((wrap64 (x13_3 + 1)) * 32)))
                                have c102b0 := eq_true (of_decide_eq_true (by first | (with_reducible assumption) | assumption) : (wrap64 ((wrap64 (x13_3 + 1)) * 32)) ≤ (t196.length : Int))
                                obtain ⟨y237, hy237⟩ : ∃ y_ : List Int, y_ = ((t196.take ((wrap64 ((wrap64 (x13_3 + 1)) * 32)) : Int).toNat).drop ((ji81) : Int).toNat) := ⟨_, rfl⟩
                                replace H : (laws_FnCrash.j3 k3 x13_3 (strOfNums y230) ((strOfNums y230).toList == (strOfNums y237).toList) t196 t199 t206 t209) = some r := by first | (rw [hy237]; with_reducible exact H) | (have H2_ := (Option.bind_some _ _).symm.trans H; rw [hy237]; with_reducible exact H2_) | (have H2_ := (Option.bind_some _ _).symm.trans H; with_reducible exact H2_) | with_reducible exact H | (rw [hy237]; exact H) | exact H
                                have Ny237 := Aside0.mk hy237
                                clear hy237
                                have H' := Aside0.mk H
                                clear H
                                have hnb103 := NB202_213.out
                                have hnc103 := NB213_202.out
                                have hnb104 := NB202_221.out
                                have hnc104 := NB221_202.out
                                have hnb105 := NB202_229.out
                                have hnc105 := NB229_202.out
                                have hcz106_0 : w93.cell? ⟨gb202, 0, none⟩ = some (.slice Ao14 t196.length co14) := (blk_cell BK202.out 0).trans rfl
                                have hcz106_1 : w93.cell? ⟨gb202, 1, none⟩ = some (.slice Ao16 t199.length co16) := (blk_cell BK202.out 1).trans rfl
                                have hfz106_0 := blk_frozen BK202.out 0
                                have hfz106_1 := blk_frozen BK202.out 1
                                have q107 : ((wrap64 ((wrap64 (x13_3 + 1)) * 32)) : Int) ≤ ((t196.length : Int) : Int) := of_decide_eq_true (by first | (with_reducible assumption) | assumption)
                                obtain ⟨i0107, hi0107, _, hsz107, _⟩ := info_parts info5
                                have hroom107 : t196.length ≤ co14 := (Kd.R_reads' HO_203000.out).2.1
                                have hC107 : Kd.C (Kd.int .u8) _ Ao14 t196.length t196 := (Kd.R_reads' HO_203000.out).2.2
                                have ql107 : ((ji81) : Int) ≤ ((wrap64 ((wrap64 (x13_3 + 1)) * 32)) : Int) := of_decide_eq_true (by first | (with_reducible assumption) | assumption)
                                have q0107 : (0 : Int) ≤ ((ji81) : Int) := of_decide_eq_true (by first | (with_reducible assumption) | assumption)
                                have hcut107 := cut_mid (P := Try.prog) 22 5 .i64 .i64 Try.underlying22 hi0107 1 hsz107 Ao14 t196.length co14 (ji81) (wrap64 ((wrap64 (x13_3 + 1)) * 32)) q0107 ql107 q107 hroom107
                                have hr107 := Kd.C_mid (lo := ((ji81) : Int).toNat) (hi := ((wrap64 ((wrap64 (x13_3 + 1)) * 32)) : Int).toNat) (c := co14) hC107 (by omega) (by omega) hroom107
                                obtain ⟨A107, hA107⟩ : ∃ A1, A1 = (if co14 = ((ji81) : Int).toNat then Ao14 else (Ao14 : Option Addr).map (·.add (((ji81) : Int).toNat * 1))) := ⟨_, rfl⟩
                                obtain ⟨c107, hc107⟩ : ∃ c1, c1 = co14 - ((ji81) : Int).toNat := ⟨_, rfl⟩
                                have hy107 : y237.length = ((wrap64 ((wrap64 (x13_3 + 1)) * 32)) : Int).toNat - ((ji81) : Int).toNat := (by rw [Ny237.out, List.length_drop, List.length_take] <;> omega)
                                rw [show ((t196).take ((wrap64 ((wrap64 (x13_3 + 1)) * 32)) : Int).toNat).drop ((ji81) : Int).toNat = y237 from Ny237.out.symm] at hr107
                                replace hr107 : Kd.C (Kd.int .u8) _ A107 y237.length y237 := (by rw [hA107]; exact hr107)
                                rw [← hy107, ← hA107, ← hc107] at hcut107
                                have HR240 := Aside0.mk hr107
                                have HC240 := Aside0.mk (show y237.length ≤ c107 from by rw [hy107, hc107]; exact Nat.sub_le_sub_right (Nat.le_trans (by omega) hroom107) _)
                                clear hr107 hC107 hroom107 hi0107 hsz107 hc107
                                have KY107 := Aside0.mk hy107
                                have KA107 := Aside0.mk hA107
                                clear hy107 hA107
                                have KL107 := Aside0.mk (show ((wrap64 ((wrap64 (x13_3 + 1)) * 32)) : Int).toNat ≤ t196.length from by omega)
                                have KM107 := Aside0.mk (show ((ji81) : Int).toNat ≤ ((wrap64 ((wrap64 (x13_3 + 1)) * 32)) : Int).toNat from by omega)
                                replace q107 := eq_true q107
                                have hcv108 := Kd.C_string (P := Try.prog) (A := A107) (c := c107) Try.underlying22 Try.underlying5 Try.underlying9 (by repeat (first | (with_reducible exact HR240.out) | (with_reducible refine Kd.C_alloc ?_ _) | (with_reducible refine Kd.C_drewN ?_ _) | (with_reducible refine Kd.C_drew ?_) | exact HR240.out))
                                go_wp2
                                go_meet
                                case rel => exact ⟨_, (((strOfNums y230).toList == (strOfNums y237).toList)), (by first | rfl | (simp; done) | (simp [*]; done)), H', ⟨by have := HJ2.out; have := HJ10.out; have := HK3.out; first | omega | exact Nat.le_refl _⟩, ⟨by (with_reducible repeat (first | apply Kd.R_alloc | apply Kd.R_drewN | apply Kd.R_drew)); exact Kd.R_mono HO_203000.out (fun _ hk => ⟨hk.1.1, ⟨hk.1.2.1, hk.1.2.2⟩⟩)⟩, ⟨by (with_reducible repeat (first | apply Kd.V_alloc | apply Kd.V_drewN | apply Kd.V_drew)); exact Kd.V_mono HO_203001.out (fun _ hk => ⟨hk.1.1, ⟨hk.1.2.1, ⟨hk.1.2.2.1, ⟨hk.1.2.2.2.1, ⟨hk.1.2.2.2.2.1, ⟨hk.1.2.2.2.2.2.1, ⟨hk.1.2.2.2.2.2.2.1, ⟨hk.1.2.2.2.2.2.2.2.1, ⟨hk.1.2.2.2.2.2.2.2.2.1, ⟨hk.1.2.2.2.2.2.2.2.2.2.1, hk.1.2.2.2.2.2.2.2.2.2.2⟩⟩⟩⟩⟩⟩⟩⟩⟩⟩)⟩, ⟨by (with_reducible repeat (first | apply Kd.R_alloc | apply Kd.R_drewN | apply Kd.R_drew)); exact Kd.R_mono HO_214000.out (fun _ hk => ⟨hk.1.1, ⟨hk.1.2.1, hk.1.2.2⟩⟩)⟩, ⟨by (with_reducible repeat (first | apply Kd.S_alloc | apply Kd.S_drewN | apply Kd.S_drew)); exact Kd.S_mono HO_214001.out (fun _ hk => ⟨hk.1.1, ⟨hk.1.2.1, ⟨hk.1.2.2.1, ⟨hk.1.2.2.2.1, ⟨hk.1.2.2.2.2.1, hk.1.2.2.2.2.2⟩⟩⟩⟩⟩)⟩, ⟨by (with_reducible repeat (first | apply Kd.R_alloc | apply Kd.R_drewN | apply Kd.R_drew)); exact Kd.R_mono HO_222000.out (fun _ hk => ⟨hk.1.1, ⟨hk.1.2.1, hk.1.2.2⟩⟩)⟩, ⟨by (with_reducible repeat (first | apply Kd.S_alloc | apply Kd.S_drewN | apply Kd.S_drew)); exact Kd.S_mono HO_222001.out (fun _ hk => ⟨hk.1.1, ⟨hk.1.2.1, ⟨hk.1.2.2.1, ⟨hk.1.2.2.2.1, ⟨hk.1.2.2.2.2.1, hk.1.2.2.2.2.2⟩⟩⟩⟩⟩)⟩, ⟨by (with_reducible repeat (first | apply Kd.R_alloc | apply Kd.R_drewN | apply Kd.R_drew)); exact Kd.R_mono HO_230000.out (fun _ hk => ⟨hk.1.1, ⟨hk.1.2.1, hk.1.2.2⟩⟩)⟩, ⟨by (with_reducible repeat (first | apply Kd.S_alloc | apply Kd.S_drewN | apply Kd.S_drew)); exact Kd.S_mono HO_230001.out (fun _ hk => ⟨hk.1.1, ⟨hk.1.2.1, ⟨hk.1.2.2.1, ⟨hk.1.2.2.2.1, ⟨hk.1.2.2.2.2.1, hk.1.2.2.2.2.2⟩⟩⟩⟩⟩)⟩, ⟨by (with_reducible repeat (first | refine blk_drewN ?_ _ | refine blk_drew ?_ | refine blk_alloc ?_ _)); exact BK202.out⟩, ⟨by (with_reducible repeat (first | refine blk_drewN ?_ _ | refine blk_drew ?_ | refine blk_alloc ?_ _)); exact BK213.out⟩, ⟨by (with_reducible repeat (first | refine blk_drewN ?_ _ | refine blk_drew ?_ | refine blk_alloc ?_ _)); exact BK221.out⟩, ⟨by (with_reducible repeat (first | refine blk_drewN ?_ _ | refine blk_drew ?_ | refine blk_alloc ?_ _)); exact BK229.out⟩, ⟨by repeat (first | (with_reducible exact HR233.out) | (with_reducible refine Kd.C_alloc ?_ _) | (with_reducible refine Kd.C_drewN ?_ _) | (with_reducible refine Kd.C_drew ?_) | exact HR233.out)⟩, ⟨by repeat (first | (with_reducible first | exact HB.out | apply below_alloc | apply pw_below_drewN | apply below_drew1 | refine below_set ?_ GE202.out | refine below_set ?_ GE213.out | refine below_set ?_ GE221.out | refine below_set ?_ GE229.out) | exact HB.out)⟩⟩
                              · rw [if_neg c99] at H
                                have c99b0 : decide ((wrap64 ((wrap64 (x13_3 + 1)) * 32)) ≤ (t196.length : Int)) = false := decide_eq_false c99
                                clear c99
                                (first | rw [c99b0] | (simp only [i64_w, i32_w]; rw [c99b0]) | skip)
                                have H' := Aside0.mk H
                                clear H
                                go_wp2
                                go_meet
                                case rel => exact ⟨_, (((strOfNums y230).toList == (strOfNums y234).toList)), (by first | rfl | (simp; done) | (simp [*]; done)), H', ⟨by have := HJ2.out; have := HJ10.out; have := HK3.out; first | omega | exact Nat.le_refl _⟩, ⟨by (with_reducible repeat (first | apply Kd.R_alloc | apply Kd.R_drewN | apply Kd.R_drew)); exact Kd.R_mono HO_203000.out (fun _ hk => ⟨hk.1.1, ⟨hk.1.2.1, hk.1.2.2⟩⟩)⟩, ⟨by (with_reducible repeat (first | apply Kd.V_alloc | apply Kd.V_drewN | apply Kd.V_drew)); exact Kd.V_mono HO_203001.out (fun _ hk => ⟨hk.1.1, ⟨hk.1.2.1, ⟨hk.1.2.2.1, ⟨hk.1.2.2.2.1, ⟨hk.1.2.2.2.2.1, ⟨hk.1.2.2.2.2.2.1, ⟨hk.1.2.2.2.2.2.2.1, ⟨hk.1.2.2.2.2.2.2.2.1, ⟨hk.1.2.2.2.2.2.2.2.2.1, ⟨hk.1.2.2.2.2.2.2.2.2.2.1, hk.1.2.2.2.2.2.2.2.2.2.2⟩⟩⟩⟩⟩⟩⟩⟩⟩⟩)⟩, ⟨by (with_reducible repeat (first | apply Kd.R_alloc | apply Kd.R_drewN | apply Kd.R_drew)); exact Kd.R_mono HO_214000.out (fun _ hk => ⟨hk.1.1, ⟨hk.1.2.1, hk.1.2.2⟩⟩)⟩, ⟨by (with_reducible repeat (first | apply Kd.S_alloc | apply Kd.S_drewN | apply Kd.S_drew)); exact Kd.S_mono HO_214001.out (fun _ hk => ⟨hk.1.1, ⟨hk.1.2.1, ⟨hk.1.2.2.1, ⟨hk.1.2.2.2.1, ⟨hk.1.2.2.2.2.1, hk.1.2.2.2.2.2⟩⟩⟩⟩⟩)⟩, ⟨by (with_reducible repeat (first | apply Kd.R_alloc | apply Kd.R_drewN | apply Kd.R_drew)); exact Kd.R_mono HO_222000.out (fun _ hk => ⟨hk.1.1, ⟨hk.1.2.1, hk.1.2.2⟩⟩)⟩, ⟨by (with_reducible repeat (first | apply Kd.S_alloc | apply Kd.S_drewN | apply Kd.S_drew)); exact Kd.S_mono HO_222001.out (fun _ hk => ⟨hk.1.1, ⟨hk.1.2.1, ⟨hk.1.2.2.1, ⟨hk.1.2.2.2.1, ⟨hk.1.2.2.2.2.1, hk.1.2.2.2.2.2⟩⟩⟩⟩⟩)⟩, ⟨by (with_reducible repeat (first | apply Kd.R_alloc | apply Kd.R_drewN | apply Kd.R_drew)); exact Kd.R_mono HO_230000.out (fun _ hk => ⟨hk.1.1, ⟨hk.1.2.1, hk.1.2.2⟩⟩)⟩, ⟨by (with_reducible repeat (first | apply Kd.S_alloc | apply Kd.S_drewN | apply Kd.S_drew)); exact Kd.S_mono HO_230001.out (fun _ hk => ⟨hk.1.1, ⟨hk.1.2.1, ⟨hk.1.2.2.1, ⟨hk.1.2.2.2.1, ⟨hk.1.2.2.2.2.1, hk.1.2.2.2.2.2⟩⟩⟩⟩⟩)⟩, ⟨by (with_reducible repeat (first | refine blk_drewN ?_ _ | refine blk_drew ?_ | refine blk_alloc ?_ _)); exact BK202.out⟩, ⟨by (with_reducible repeat (first | refine blk_drewN ?_ _ | refine blk_drew ?_ | refine blk_alloc ?_ _)); exact BK213.out⟩, ⟨by (with_reducible repeat (first | refine blk_drewN ?_ _ | refine blk_drew ?_ | refine blk_alloc ?_ _)); exact BK221.out⟩, ⟨by (with_reducible repeat (first | refine blk_drewN ?_ _ | refine blk_drew ?_ | refine blk_alloc ?_ _)); exact BK229.out⟩, ⟨by repeat (first | (with_reducible exact HR233.out) | (with_reducible refine Kd.C_alloc ?_ _) | (with_reducible refine Kd.C_drewN ?_ _) | (with_reducible refine Kd.C_drew ?_) | exact HR233.out)⟩, ⟨by repeat (first | (with_reducible first | exact HB.out | apply below_alloc | apply pw_below_drewN | apply below_drew1 | refine below_set ?_ GE202.out | refine below_set ?_ GE213.out | refine below_set ?_ GE221.out | refine below_set ?_ GE229.out) | exact HB.out)⟩⟩
                            case rest =>
                              clear HC86
                              try clear c1
                              try clear q1
                              try clear hcv1
                              try clear c2
                              try clear p2
                              try clear c3
                              try clear c4
                              try clear c4b0
                              try clear c4b1
                              try clear c5
                              try clear hcv5
                              try clear c6
                              try clear p6
                              try clear hcv6
                              try clear c7
                              try clear hcv7
                              try clear c8
                              try clear c9
                              try clear q9
                              try clear hcv9
                              try clear c10
                              try clear q10
                              try clear hcv10
                              try clear c23
                              try clear c30
                              try clear c31
                              try clear c38
                              try clear c39
                              try clear c40
                              try clear c43
                              try clear c43b0
                              try clear c43b1
                              try clear c44
                              try clear c44b0
                              try clear c44b1
                              try clear c45
                              try clear c45b0
                              try clear c45b1
                              try clear c46
                              try clear c46b0
                              try clear c46b1
                              try clear c46b2
                              try clear c47
                              try clear c48
                              try clear c49
                              try clear hcv51
                              try clear c52
                              try clear c53
                              try clear hcv55
                              try clear c56
                              try clear hcv58
                              try clear hcv60
                              try clear c61
                              try clear c62
                              try clear c63
                              try clear p64
                              try clear hcv65
                              try clear c66
                              try clear c67
                              try clear hcv69
                              try clear c70
                              try clear c71
                              try clear c72
                              try clear hcv74
                              try clear c75
                              try clear c76
                              try clear hcv78
                              try clear c79
                              try clear c80
                              try clear c80b0
                              try clear c82
                              try clear c82b0
                              try clear c82b1
                              try clear c83
                              try clear c83b0
                              try clear c83b1
                              try clear c84
                              try clear c84b0
                              try clear c84b1
                              try clear c85
                              try clear c85b0
                              try clear c85b1
                              try clear c87
                              try clear c88
                              try clear c89
                              try clear c91
                              try clear q91
                              try clear hcv92
                              try clear hcv95
                              try clear c96
                              try clear c97
                              try clear c99
                              try clear c99b0
                              try clear c100
                              try clear c100b0
                              try clear c101
                              try clear c101b0
                              try clear c102
                              try clear c102b0
                              try clear c103
                              try clear c104
                              try clear c105
                              try clear c107
                              try clear q107
                              try clear hcv108
                              try clear hcz106_0
                              try clear hcz106_1
                              try clear hcz15_0
                              try clear hcz15_1
                              try clear hcz18_0
                              try clear hcz18_1
                              try clear hcz24_0
                              try clear hcz24_1
                              try clear hcz26_0
                              try clear hcz26_1
                              try clear hcz32_0
                              try clear hcz32_1
                              try clear hcz34_0
                              try clear hcz34_1
                              try clear hcz41_0
                              try clear hcz41_1
                              try clear hcz50_0
                              try clear hcz50_1
                              try clear hcz54_0
                              try clear hcz54_1
                              try clear hcz57_0
                              try clear hcz57_1
                              try clear hcz59_0
                              try clear hcz59_1
                              try clear hcz64_0
                              try clear hcz64_1
                              try clear hcz68_0
                              try clear hcz68_1
                              try clear hcz73_0
                              try clear hcz73_1
                              try clear hcz77_0
                              try clear hcz77_1
                              try clear hcz90_0
                              try clear hcz90_1
                              try clear hcz98_0
                              try clear hcz98_1
                              try clear hfz106_0
                              try clear hfz106_1
                              try clear hfz15_0
                              try clear hfz15_1
                              try clear hfz18_0
                              try clear hfz18_1
                              try clear hfz24_0
                              try clear hfz24_1
                              try clear hfz26_0
                              try clear hfz26_1
                              try clear hfz32_0
                              try clear hfz32_1
                              try clear hfz34_0
                              try clear hfz34_1
                              try clear hfz41_0
                              try clear hfz41_1
                              try clear hfz50_0
                              try clear hfz50_1
                              try clear hfz54_0
                              try clear hfz54_1
                              try clear hfz57_0
                              try clear hfz57_1
                              try clear hfz59_0
                              try clear hfz59_1
                              try clear hfz64_0
                              try clear hfz64_1
                              try clear hfz68_0
                              try clear hfz68_1
                              try clear hfz73_0
                              try clear hfz73_1
                              try clear hfz77_0
                              try clear hfz77_1
                              try clear hfz90_0
                              try clear hfz90_1
                              try clear hfz98_0
                              try clear hfz98_1
                              try clear p2
                              try clear q0107
                              try clear q091
                              try clear q107
                              try clear q91
                              obtain ⟨kq, x15_85, rfl, HA, HJ85, HO_203000, HO_203001, HO_214000, HO_214001, HO_222000, HO_222001, HO_230000, HO_230001, BK202, BK213, BK221, BK229, HR233, HB⟩ := hcut
                              cases kq with
                              | zero => exact absurd HA.out (by simp [laws_FnCrash.j3])
                              | succ kj85 =>
                                have H := HA.out
                                clear HA
                                simp only [laws_FnCrash.j3] at H
                                have H' := Aside0.mk H
                                clear H
                                go_wp2
                                go_loopg [15, 16] kj85 (fun kq v15 v16 w' => ∃ (x15_5 : Bool) (x16_5 : Int), v15 = .bool x15_5 ∧ v16 = .int .i64 x16_5 ∧ Aside0 (laws_FnCrash.l1 kq x13_3 (strOfNums y230) x15_5 x16_5 t196 t199 t206 t209 = some r) ∧ Aside0 (kq ≤ kj85) ∧ Aside0 (Kd.R (Kd.int .u8) 5 w' w.heap.size (fun k_ => some k_ ≠ ((.slice Ao22 t206.length co22) : Value).ownBlock ∧ some k_ ≠ ((.slice Ao29 t214.length co29) : Value).ownBlock ∧ some k_ ≠ ((.slice Ao37 t222.length co37) : Value).ownBlock) (.slice Ao14 t196.length co14) t196) ∧ Aside0 (Kd.V k32 32 w' w.heap.size (fun k_ => some k_ ≠ ((.slice Ao14 t196.length co14) : Value).ownBlock ∧ some k_ ≠ ((.slice Ao22 t206.length co22) : Value).ownBlock ∧ some k_ ≠ ((.slice Ao25 t209.length co25) : Value).ownBlock ∧ some k_ ≠ ((.slice Ao29 t214.length co29) : Value).ownBlock ∧ some k_ ≠ ((.slice Ao33 t217.length co33) : Value).ownBlock ∧ some k_ ≠ ((.slice Ao37 t222.length co37) : Value).ownBlock ∧ some k_ ≠ ((.slice Ao42 t225.length co42) : Value).ownBlock ∧ k_ ≠ gb202 ∧ k_ ≠ gb213 ∧ k_ ≠ gb221 ∧ k_ ≠ gb229) (.slice Ao16 t199.length co16) t199) ∧ Aside0 (Kd.R (Kd.int .u8) 5 w' w.heap.size (fun k_ => some k_ ≠ ((.slice Ao14 t196.length co14) : Value).ownBlock ∧ some k_ ≠ ((.slice Ao29 t214.length co29) : Value).ownBlock ∧ some k_ ≠ ((.slice Ao37 t222.length co37) : Value).ownBlock) (.slice Ao22 t206.length co22) t206) ∧ Aside0 (Kd.S k32 32 w' w.heap.size (fun k_ => some k_ ≠ ((.slice Ao14 t196.length co14) : Value).ownBlock ∧ some k_ ≠ ((.slice Ao22 t206.length co22) : Value).ownBlock ∧ some k_ ≠ ((.slice Ao29 t214.length co29) : Value).ownBlock ∧ some k_ ≠ ((.slice Ao33 t217.length co33) : Value).ownBlock ∧ some k_ ≠ ((.slice Ao37 t222.length co37) : Value).ownBlock ∧ some k_ ≠ ((.slice Ao42 t225.length co42) : Value).ownBlock) (.slice Ao25 t209.length co25) t209) ∧ Aside0 (Kd.R (Kd.int .u8) 5 w' w.heap.size (fun k_ => some k_ ≠ ((.slice Ao14 t196.length co14) : Value).ownBlock ∧ some k_ ≠ ((.slice Ao22 t206.length co22) : Value).ownBlock ∧ some k_ ≠ ((.slice Ao37 t222.length co37) : Value).ownBlock) (.slice Ao29 t214.length co29) t214) ∧ Aside0 (Kd.S k32 32 w' w.heap.size (fun k_ => some k_ ≠ ((.slice Ao14 t196.length co14) : Value).ownBlock ∧ some k_ ≠ ((.slice Ao22 t206.length co22) : Value).ownBlock ∧ some k_ ≠ ((.slice Ao25 t209.length co25) : Value).ownBlock ∧ some k_ ≠ ((.slice Ao29 t214.length co29) : Value).ownBlock ∧ some k_ ≠ ((.slice Ao37 t222.length co37) : Value).ownBlock ∧ some k_ ≠ ((.slice Ao42 t225.length co42) : Value).ownBlock) (.slice Ao33 t217.length co33) t217) ∧ Aside0 (Kd.R (Kd.int .u8) 5 w' w.heap.size (fun k_ => some k_ ≠ ((.slice Ao14 t196.length co14) : Value).ownBlock ∧ some k_ ≠ ((.slice Ao22 t206.length co22) : Value).ownBlock ∧ some k_ ≠ ((.slice Ao29 t214.length co29) : Value).ownBlock) (.slice Ao37 t222.length co37) t222) ∧ Aside0 (Kd.S k32 32 w' w.heap.size (fun k_ => some k_ ≠ ((.slice Ao14 t196.length co14) : Value).ownBlock ∧ some k_ ≠ ((.slice Ao22 t206.length co22) : Value).ownBlock ∧ some k_ ≠ ((.slice Ao25 t209.length co25) : Value).ownBlock ∧ some k_ ≠ ((.slice Ao29 t214.length co29) : Value).ownBlock ∧ some k_ ≠ ((.slice Ao33 t217.length co33) : Value).ownBlock ∧ some k_ ≠ ((.slice Ao37 t222.length co37) : Value).ownBlock) (.slice Ao42 t225.length co42) t225) ∧ Aside0 (w'.heap[gb202]? = some (.cells #[(.slice Ao14 t196.length co14), (.slice Ao16 t199.length co16)] 25 (0, 0))) ∧ Aside0 (w'.heap[gb213]? = some (.cells #[(.slice Ao22 t206.length co22), (.slice Ao25 t209.length co25)] 25 (0, 0))) ∧ Aside0 (w'.heap[gb221]? = some (.cells #[(.slice Ao29 t214.length co29), (.slice Ao33 t217.length co33)] 25 (0, 0))) ∧ Aside0 (w'.heap[gb229]? = some (.cells #[(.slice Ao37 t222.length co37), (.slice Ao42 t225.length co42)] 25 (0, 0))) ∧ Aside0 (Kd.C (Kd.int .u8) w' A91 y230.length y230) ∧ Aside0 (Below w.heap.size w w'))
                                case atStart => exact ⟨(x15_85), (0), (by first | rfl | (simp; done) | (simp [*]; done)), (by first | rfl | (simp; done) | (simp [*]; done)), H', ⟨Nat.le_refl _⟩, ⟨by (with_reducible repeat (first | apply Kd.R_alloc | apply Kd.R_drewN | apply Kd.R_drew)); exact HO_203000.out⟩, ⟨by (with_reducible repeat (first | apply Kd.V_alloc | apply Kd.V_drewN | apply Kd.V_drew)); exact HO_203001.out⟩, ⟨by (with_reducible repeat (first | apply Kd.R_alloc | apply Kd.R_drewN | apply Kd.R_drew)); exact HO_214000.out⟩, ⟨by (with_reducible repeat (first | apply Kd.S_alloc | apply Kd.S_drewN | apply Kd.S_drew)); exact HO_214001.out⟩, ⟨by (with_reducible repeat (first | apply Kd.R_alloc | apply Kd.R_drewN | apply Kd.R_drew)); exact HO_222000.out⟩, ⟨by (with_reducible repeat (first | apply Kd.S_alloc | apply Kd.S_drewN | apply Kd.S_drew)); exact HO_222001.out⟩, ⟨by (with_reducible repeat (first | apply Kd.R_alloc | apply Kd.R_drewN | apply Kd.R_drew)); exact HO_230000.out⟩, ⟨by (with_reducible repeat (first | apply Kd.S_alloc | apply Kd.S_drewN | apply Kd.S_drew)); exact HO_230001.out⟩, ⟨by (with_reducible repeat (first | refine blk_drewN ?_ _ | refine blk_drew ?_ | refine blk_alloc ?_ _)); exact BK202.out⟩, ⟨by (with_reducible repeat (first | refine blk_drewN ?_ _ | refine blk_drew ?_ | refine blk_alloc ?_ _)); exact BK213.out⟩, ⟨by (with_reducible repeat (first | refine blk_drewN ?_ _ | refine blk_drew ?_ | refine blk_alloc ?_ _)); exact BK221.out⟩, ⟨by (with_reducible repeat (first | refine blk_drewN ?_ _ | refine blk_drew ?_ | refine blk_alloc ?_ _)); exact BK229.out⟩, ⟨by repeat (first | (with_reducible exact HR233.out) | (with_reducible refine Kd.C_alloc ?_ _) | (with_reducible refine Kd.C_drewN ?_ _) | (with_reducible refine Kd.C_drew ?_) | exact HR233.out)⟩, ⟨by repeat (first | (with_reducible first | exact HB.out | apply below_alloc | apply pw_below_drewN | apply below_drew1 | refine below_set ?_ GE202.out | refine below_set ?_ GE213.out | refine below_set ?_ GE221.out | refine below_set ?_ GE229.out) | exact HB.out)⟩⟩
                                case round =>
                                  clear H'
                                  try clear c1
                                  try clear q1
                                  try clear hcv1
                                  try clear c2
                                  try clear p2
                                  try clear c3
                                  try clear c4
                                  try clear c4b0
                                  try clear c4b1
                                  try clear c5
                                  try clear hcv5
                                  try clear c6
                                  try clear p6
                                  try clear hcv6
                                  try clear c7
                                  try clear hcv7
                                  try clear c8
                                  try clear c9
                                  try clear q9
                                  try clear hcv9
                                  try clear c10
                                  try clear q10
                                  try clear hcv10
                                  try clear c23
                                  try clear c30
                                  try clear c31
                                  try clear c38
                                  try clear c39
                                  try clear c40
                                  try clear c43
                                  try clear c43b0
                                  try clear c43b1
                                  try clear c44
                                  try clear c44b0
                                  try clear c44b1
                                  try clear c45
                                  try clear c45b0
                                  try clear c45b1
                                  try clear c46
                                  try clear c46b0
                                  try clear c46b1
                                  try clear c46b2
                                  try clear c47
                                  try clear c48
                                  try clear c49
                                  try clear hcv51
                                  try clear c52
                                  try clear c53
                                  try clear hcv55
                                  try clear c56
                                  try clear hcv58
                                  try clear hcv60
                                  try clear c61
                                  try clear c62
                                  try clear c63
                                  try clear p64
                                  try clear hcv65
                                  try clear c66
                                  try clear c67
                                  try clear hcv69
                                  try clear c70
                                  try clear c71
                                  try clear c72
                                  try clear hcv74
                                  try clear c75
                                  try clear c76
                                  try clear hcv78
                                  try clear c79
                                  try clear c80
                                  try clear c80b0
                                  try clear c82
                                  try clear c82b0
                                  try clear c82b1
                                  try clear c83
                                  try clear c83b0
                                  try clear c83b1
                                  try clear c84
                                  try clear c84b0
                                  try clear c84b1
                                  try clear c85
                                  try clear c85b0
                                  try clear c85b1
                                  try clear c87
                                  try clear c88
                                  try clear c89
                                  try clear c91
                                  try clear q91
                                  try clear hcv92
                                  try clear hcv95
                                  try clear c96
                                  try clear c97
                                  try clear c99
                                  try clear c99b0
                                  try clear c100
                                  try clear c100b0
                                  try clear c101
                                  try clear c101b0
                                  try clear c102
                                  try clear c102b0
                                  try clear c103
                                  try clear c104
                                  try clear c105
                                  try clear c107
                                  try clear q107
                                  try clear hcv108
                                  try clear hcz106_0
                                  try clear hcz106_1
                                  try clear hcz15_0
                                  try clear hcz15_1
                                  try clear hcz18_0
                                  try clear hcz18_1
                                  try clear hcz24_0
                                  try clear hcz24_1
                                  try clear hcz26_0
                                  try clear hcz26_1
                                  try clear hcz32_0
                                  try clear hcz32_1
                                  try clear hcz34_0
                                  try clear hcz34_1
                                  try clear hcz41_0
                                  try clear hcz41_1
                                  try clear hcz50_0
                                  try clear hcz50_1
                                  try clear hcz54_0
                                  try clear hcz54_1
                                  try clear hcz57_0
                                  try clear hcz57_1
                                  try clear hcz59_0
                                  try clear hcz59_1
                                  try clear hcz64_0
                                  try clear hcz64_1
                                  try clear hcz68_0
                                  try clear hcz68_1
                                  try clear hcz73_0
                                  try clear hcz73_1
                                  try clear hcz77_0
                                  try clear hcz77_1
                                  try clear hcz90_0
                                  try clear hcz90_1
                                  try clear hcz98_0
                                  try clear hcz98_1
                                  try clear hfz106_0
                                  try clear hfz106_1
                                  try clear hfz15_0
                                  try clear hfz15_1
                                  try clear hfz18_0
                                  try clear hfz18_1
                                  try clear hfz24_0
                                  try clear hfz24_1
                                  try clear hfz26_0
                                  try clear hfz26_1
                                  try clear hfz32_0
                                  try clear hfz32_1
                                  try clear hfz34_0
                                  try clear hfz34_1
                                  try clear hfz41_0
                                  try clear hfz41_1
                                  try clear hfz50_0
                                  try clear hfz50_1
                                  try clear hfz54_0
                                  try clear hfz54_1
                                  try clear hfz57_0
                                  try clear hfz57_1
                                  try clear hfz59_0
                                  try clear hfz59_1
                                  try clear hfz64_0
                                  try clear hfz64_1
                                  try clear hfz68_0
                                  try clear hfz68_1
                                  try clear hfz73_0
                                  try clear hfz73_1
                                  try clear hfz77_0
                                  try clear hfz77_1
                                  try clear hfz90_0
                                  try clear hfz90_1
                                  try clear hfz98_0
                                  try clear hfz98_1
                                  try clear p2
                                  try clear p6
                                  try clear p64
                                  try clear q0107
                                  try clear q091
                                  try clear q1
                                  try clear q10
                                  try clear q107
                                  try clear q9
                                  try clear q91
                                  obtain ⟨x15_5, x16_5, rfl, rfl, HA, HK5, HO_203000, HO_203001, HO_214000, HO_214001, HO_222000, HO_222001, HO_230000, HO_230001, BK202, BK213, BK221, BK229, HR233, HB⟩ := hrel
                                  cases gk with
                                  | zero => exact absurd HA.out (by simp [laws_FnCrash.l1])
                                  | succ k5 =>
                                    have H := HA.out
                                    clear HA
                                    simp only [laws_FnCrash.l1] at H
                                    by_cases c109 : x16_5 < (t199.length : Int)
                                    · rw [if_pos c109] at H
                                      have c109b0 : decide (x16_5 < (t199.length : Int)) = true := decide_eq_true c109
                                      clear c109
                                      by_cases c110 : x15_5 = true
                                      · subst c110
                                        have H1 : (laws_FnCrash.l1 k5 x13_3 (strOfNums y230) true (wrap64 (x16_5 + 1)) t196 t199 t206 t209) = some r := by rw [if_pos rfl] at H; exact H
                                        clear H
                                        have H := H1
                                        clear H1
                                        have H' := Aside0.mk H
                                        clear H
                                        have hnb111 := NB202_213.out
                                        have hnc111 := NB213_202.out
                                        have hnb112 := NB202_221.out
                                        have hnc112 := NB221_202.out
                                        have hnb113 := NB202_229.out
                                        have hnc113 := NB229_202.out
                                        have hcz114_0 : wr.cell? ⟨gb202, 0, none⟩ = some (.slice Ao14 t196.length co14) := (blk_cell BK202.out 0).trans rfl
                                        have hcz114_1 : wr.cell? ⟨gb202, 1, none⟩ = some (.slice Ao16 t199.length co16) := (blk_cell BK202.out 1).trans rfl
                                        have hfz114_0 := blk_frozen BK202.out 0
                                        have hfz114_1 := blk_frozen BK202.out 1
                                        go_wp2
                                        go_roundg k5
                                        case measure => have := HJ2.out; have := HJ10.out; have := HK3.out; have := HJ85.out; have := HK5.out; omega
                                        case rel => exact ⟨(true), (wrap64 (x16_5 + 1)), (by first | rfl | (simp; done) | (simp [*]; done)), (by first | rfl | (simp; done) | (simp [*]; done)), H', ⟨by have := HJ2.out; have := HJ10.out; have := HK3.out; have := HJ85.out; have := HK5.out; omega⟩, ⟨by (with_reducible repeat (first | apply Kd.R_alloc | apply Kd.R_drewN | apply Kd.R_drew)); exact HO_203000.out⟩, ⟨by (with_reducible repeat (first | apply Kd.V_alloc | apply Kd.V_drewN | apply Kd.V_drew)); exact HO_203001.out⟩, ⟨by (with_reducible repeat (first | apply Kd.R_alloc | apply Kd.R_drewN | apply Kd.R_drew)); exact HO_214000.out⟩, ⟨by (with_reducible repeat (first | apply Kd.S_alloc | apply Kd.S_drewN | apply Kd.S_drew)); exact HO_214001.out⟩, ⟨by (with_reducible repeat (first | apply Kd.R_alloc | apply Kd.R_drewN | apply Kd.R_drew)); exact HO_222000.out⟩, ⟨by (with_reducible repeat (first | apply Kd.S_alloc | apply Kd.S_drewN | apply Kd.S_drew)); exact HO_222001.out⟩, ⟨by (with_reducible repeat (first | apply Kd.R_alloc | apply Kd.R_drewN | apply Kd.R_drew)); exact HO_230000.out⟩, ⟨by (with_reducible repeat (first | apply Kd.S_alloc | apply Kd.S_drewN | apply Kd.S_drew)); exact HO_230001.out⟩, ⟨by (with_reducible repeat (first | refine blk_drewN ?_ _ | refine blk_drew ?_ | refine blk_alloc ?_ _)); exact BK202.out⟩, ⟨by (with_reducible repeat (first | refine blk_drewN ?_ _ | refine blk_drew ?_ | refine blk_alloc ?_ _)); exact BK213.out⟩, ⟨by (with_reducible repeat (first | refine blk_drewN ?_ _ | refine blk_drew ?_ | refine blk_alloc ?_ _)); exact BK221.out⟩, ⟨by (with_reducible repeat (first | refine blk_drewN ?_ _ | refine blk_drew ?_ | refine blk_alloc ?_ _)); exact BK229.out⟩, ⟨by repeat (first | (with_reducible exact HR233.out) | (with_reducible refine Kd.C_alloc ?_ _) | (with_reducible refine Kd.C_drewN ?_ _) | (with_reducible refine Kd.C_drew ?_) | exact HR233.out)⟩, ⟨by repeat (first | (with_reducible first | exact HB.out | apply below_alloc | apply pw_below_drewN | apply below_drew1 | refine below_set ?_ GE202.out | refine below_set ?_ GE213.out | refine below_set ?_ GE221.out | refine below_set ?_ GE229.out) | exact HB.out)⟩⟩
                                      · replace c110 := Bool.eq_false_iff.mpr c110
                                        subst c110
                                        have H1 : (if 0 ≤ x16_5 then (if ((rd_T32 t199 x16_5).f0) = x13_3 then (laws_FnCrash.l1 k5 x13_3 (strOfNums y230) ((strOfNums ((rd_T32 t199 x16_5).f1)).toList == (strOfNums y230).toList) (wrap64 (x16_5 + 1)) t196 t199 t206 t209) else (laws_FnCrash.l1 k5 x13_3 (strOfNums y230) false (wrap64 (x16_5 + 1)) t196 t199 t206 t209)) else (none)) = some r := by rw [if_neg (show ¬ (false = true) by decide)] at H; exact H
                                        clear H
                                        have H := H1
                                        clear H1
                                        by_cases c115 : 0 ≤ x16_5
                                        · rw [if_pos c115] at H
                                          have c115b0 : decide (0 ≤ x16_5) = true := decide_eq_true c115
                                          clear c115
                                          by_cases c116 : ((rd_T32 t199 x16_5).f0) = x13_3
                                          · rw [if_pos c116] at H
                                            have c116b0 : (((rd_T32 t199 x16_5).f0) == x13_3) = true := beq_iff_eq.mpr c116
                                            have c116b1 : (((rd_T32 t199 x16_5).f0) != x13_3) = false := bne_eq_false_iff_eq.mpr c116
                                            clear c116
                                            have H' := Aside0.mk H
                                            clear H
                                            have hnb117 := NB202_213.out
                                            have hnc117 := NB213_202.out
                                            have hnb118 := NB202_221.out
                                            have hnc118 := NB221_202.out
                                            have hnb119 := NB202_229.out
                                            have hnc119 := NB229_202.out
                                            have hcz120_0 : wr.cell? ⟨gb202, 0, none⟩ = some (.slice Ao14 t196.length co14) := (blk_cell BK202.out 0).trans rfl
                                            have hcz120_1 : wr.cell? ⟨gb202, 1, none⟩ = some (.slice Ao16 t199.length co16) := (blk_cell BK202.out 1).trans rfl
                                            have hfz120_0 := blk_frozen BK202.out 0
                                            have hfz120_1 := blk_frozen BK202.out 1
                                            have p241 : 0 ≤ (x16_5 : Int) := of_decide_eq_true (by first | (with_reducible assumption) | assumption)
                                            have q241 : x16_5 < (t199.length : Int) := of_decide_eq_true (by first | (with_reducible assumption) | assumption)
                                            obtain ⟨ad241, A241_1, c241_1, e241, hx241_0, hx241_1, hl241_1, hi241_1⟩ := at_T32 (Kd.V_reads' HO_203001.out).2.2 x16_5 p241 q241
                                            cases e241
                                            obtain ⟨ce241, hce241, hMe241, hcc241⟩ := Kd.V_get HO_203001.out z32 x16_5 p241 (by first | exact q241 | exact of_decide_eq_true (by first | (with_reducible assumption) | assumption) | (have e_ := (Kd.V_reads' HO_203001.out).1; omega))
                                            obtain ⟨ua241_1, uc241_1, rfl, ul241_1, ge241_1⟩ := k32_openF hMe241
                                            have hv241_1 := hcc241 1 _ rfl
                                            rw [add_field _ _ 1 (by omega)] at hv241_1
                                            replace hv241_1 := Option.some.inj (hv241_1.symm.trans hx241_1)
                                            injection hv241_1 with hva_ hvn_ hvc_
                                            rw [hva_] at ge241_1
                                            rw [hvc_] at ul241_1
                                            have HL241_1 := Aside0.mk (show Kd.V (Kd.int .u8) 5 _ w.heap.size _ _ ((rd_T32 t199 x16_5).f1) from Kd.V_mk ul241_1 ge241_1)
                                            clear hva_ hvn_ hvc_ ge241_1 ul241_1
                                            clear hcc241 hce241
                                            have HR241_1 := Aside0.mk hi241_1
                                            have HC241_1 := Aside0.mk hl241_1
                                            clear hi241_1 hl241_1
                                            replace p241 := eq_true p241
                                            replace q241 := eq_true q241
                                            have p242 : 0 ≤ (x16_5 : Int) := of_decide_eq_true (by first | (with_reducible assumption) | assumption)
                                            have q242 : x16_5 < (t199.length : Int) := of_decide_eq_true (by first | (with_reducible assumption) | assumption)
                                            obtain ⟨ad242, A242_1, c242_1, e242, hx242_0, hx242_1, hl242_1, hi242_1⟩ := at_T32 (Kd.V_reads' HO_203001.out).2.2 x16_5 p242 q242
                                            obtain rfl : ad241 = ad242 := (by injection e242)
                                            obtain ⟨ce242, hce242, hMe242, hcc242⟩ := Kd.V_get HO_203001.out z32 x16_5 p242 (by first | exact q242 | exact of_decide_eq_true (by first | (with_reducible assumption) | assumption) | (have e_ := (Kd.V_reads' HO_203001.out).1; omega))
                                            obtain ⟨ua242_1, uc242_1, rfl, ul242_1, ge242_1⟩ := k32_openF hMe242
                                            have hv242_1 := hcc242 1 _ rfl
                                            rw [add_field _ _ 1 (by omega)] at hv242_1
                                            replace hv242_1 := Option.some.inj (hv242_1.symm.trans hx242_1)
                                            injection hv242_1 with hva_ hvn_ hvc_
                                            rw [hva_] at ge242_1
                                            rw [hvc_] at ul242_1
                                            have HL242_1 := Aside0.mk (show Kd.V (Kd.int .u8) 5 _ w.heap.size _ _ ((rd_T32 t199 x16_5).f1) from Kd.V_mk ul242_1 ge242_1)
                                            clear hva_ hvn_ hvc_ ge242_1 ul242_1
                                            clear hcc242 hce242
                                            have HR242_1 := Aside0.mk hi242_1
                                            have HC242_1 := Aside0.mk hl242_1
                                            clear hi242_1 hl242_1
                                            replace p242 := eq_true p242
                                            replace q242 := eq_true q242
                                            have ea_ := Option.some.inj (hx241_1.symm.trans hx242_1)
                                            injection ea_ with ea_ en_ ec_
                                            subst ea_
                                            subst ec_
                                            clear en_
                                            have hcv121 := Kd.C_string (P := Try.prog) (A := A241_1) (c := c241_1) Try.underlying22 Try.underlying5 Try.underlying9 (by repeat (first | (with_reducible exact HR242_1.out) | (with_reducible refine Kd.C_alloc ?_ _) | (with_reducible refine Kd.C_drewN ?_ _) | (with_reducible refine Kd.C_drew ?_) | exact HR242_1.out))
                                            go_wp2
                                            go_roundg k5
                                            case measure => have := HJ2.out; have := HJ10.out; have := HK3.out; have := HJ85.out; have := HK5.out; omega
                                            case rel => exact ⟨(((strOfNums ((rd_T32 t199 x16_5).f1)).toList == (strOfNums y230).toList)), (wrap64 (x16_5 + 1)), (by first | rfl | (simp; done) | (simp [*]; done)), (by first | rfl | (simp; done) | (simp [*]; done)), H', ⟨by have := HJ2.out; have := HJ10.out; have := HK3.out; have := HJ85.out; have := HK5.out; omega⟩, ⟨by (with_reducible repeat (first | apply Kd.R_alloc | apply Kd.R_drewN | apply Kd.R_drew)); exact HO_203000.out⟩, ⟨by (with_reducible repeat (first | apply Kd.V_alloc | apply Kd.V_drewN | apply Kd.V_drew)); exact HO_203001.out⟩, ⟨by (with_reducible repeat (first | apply Kd.R_alloc | apply Kd.R_drewN | apply Kd.R_drew)); exact HO_214000.out⟩, ⟨by (with_reducible repeat (first | apply Kd.S_alloc | apply Kd.S_drewN | apply Kd.S_drew)); exact HO_214001.out⟩, ⟨by (with_reducible repeat (first | apply Kd.R_alloc | apply Kd.R_drewN | apply Kd.R_drew)); exact HO_222000.out⟩, ⟨by (with_reducible repeat (first | apply Kd.S_alloc | apply Kd.S_drewN | apply Kd.S_drew)); exact HO_222001.out⟩, ⟨by (with_reducible repeat (first | apply Kd.R_alloc | apply Kd.R_drewN | apply Kd.R_drew)); exact HO_230000.out⟩, ⟨by (with_reducible repeat (first | apply Kd.S_alloc | apply Kd.S_drewN | apply Kd.S_drew)); exact HO_230001.out⟩, ⟨by (with_reducible repeat (first | refine blk_drewN ?_ _ | refine blk_drew ?_ | refine blk_alloc ?_ _)); exact BK202.out⟩, ⟨by (with_reducible repeat (first | refine blk_drewN ?_ _ | refine blk_drew ?_ | refine blk_alloc ?_ _)); exact BK213.out⟩, ⟨by (with_reducible repeat (first | refine blk_drewN ?_ _ | refine blk_drew ?_ | refine blk_alloc ?_ _)); exact BK221.out⟩, ⟨by (with_reducible repeat (first | refine blk_drewN ?_ _ | refine blk_drew ?_ | refine blk_alloc ?_ _)); exact BK229.out⟩, ⟨by repeat (first | (with_reducible exact HR233.out) | (with_reducible refine Kd.C_alloc ?_ _) | (with_reducible refine Kd.C_drewN ?_ _) | (with_reducible refine Kd.C_drew ?_) | exact HR233.out)⟩, ⟨by repeat (first | (with_reducible first | exact HB.out | apply below_alloc | apply pw_below_drewN | apply below_drew1 | refine below_set ?_ GE202.out | refine below_set ?_ GE213.out | refine below_set ?_ GE221.out | refine below_set ?_ GE229.out) | exact HB.out)⟩⟩
                                          · rw [if_neg c116] at H
                                            have c116b0 : (((rd_T32 t199 x16_5).f0) == x13_3) = false := beq_eq_false_iff_ne.mpr c116
                                            have c116b1 : (((rd_T32 t199 x16_5).f0) != x13_3) = true := bne_iff_ne.mpr c116
                                            have H' := Aside0.mk H
                                            clear H
                                            have hnb122 := NB202_213.out
                                            have hnc122 := NB213_202.out
                                            have hnb123 := NB202_221.out
                                            have hnc123 := NB221_202.out
                                            have hnb124 := NB202_229.out
                                            have hnc124 := NB229_202.out
                                            have hcz125_0 : wr.cell? ⟨gb202, 0, none⟩ = some (.slice Ao14 t196.length co14) := (blk_cell BK202.out 0).trans rfl
                                            have hcz125_1 : wr.cell? ⟨gb202, 1, none⟩ = some (.slice Ao16 t199.length co16) := (blk_cell BK202.out 1).trans rfl
                                            have hfz125_0 := blk_frozen BK202.out 0
                                            have hfz125_1 := blk_frozen BK202.out 1
                                            have p241 : 0 ≤ (x16_5 : Int) := of_decide_eq_true (by first | (with_reducible assumption) | assumption)
                                            have q241 : x16_5 < (t199.length : Int) := of_decide_eq_true (by first | (with_reducible assumption) | assumption)
                                            obtain ⟨ad241, A241_1, c241_1, e241, hx241_0, hx241_1, hl241_1, hi241_1⟩ := at_T32 (Kd.V_reads' HO_203001.out).2.2 x16_5 p241 q241
                                            cases e241
                                            obtain ⟨ce241, hce241, hMe241, hcc241⟩ := Kd.V_get HO_203001.out z32 x16_5 p241 (by first | exact q241 | exact of_decide_eq_true (by first | (with_reducible assumption) | assumption) | (have e_ := (Kd.V_reads' HO_203001.out).1; omega))
                                            obtain ⟨ua241_1, uc241_1, rfl, ul241_1, ge241_1⟩ := k32_openF hMe241
                                            have hv241_1 := hcc241 1 _ rfl
                                            rw [add_field _ _ 1 (by omega)] at hv241_1
                                            replace hv241_1 := Option.some.inj (hv241_1.symm.trans hx241_1)
                                            injection hv241_1 with hva_ hvn_ hvc_
                                            rw [hva_] at ge241_1
                                            rw [hvc_] at ul241_1
                                            have HL241_1 := Aside0.mk (show Kd.V (Kd.int .u8) 5 _ w.heap.size _ _ ((rd_T32 t199 x16_5).f1) from Kd.V_mk ul241_1 ge241_1)
                                            clear hva_ hvn_ hvc_ ge241_1 ul241_1
                                            clear hcc241 hce241
                                            have HR241_1 := Aside0.mk hi241_1
                                            have HC241_1 := Aside0.mk hl241_1
                                            clear hi241_1 hl241_1
                                            replace p241 := eq_true p241
                                            replace q241 := eq_true q241
                                            go_wp2
                                            go_roundg k5
                                            case measure => have := HJ2.out; have := HJ10.out; have := HK3.out; have := HJ85.out; have := HK5.out; omega
                                            case rel => exact ⟨(false), (wrap64 (x16_5 + 1)), (by first | rfl | (simp; done) | (simp [*]; done)), (by first | rfl | (simp; done) | (simp [*]; done)), H', ⟨by have := HJ2.out; have := HJ10.out; have := HK3.out; have := HJ85.out; have := HK5.out; omega⟩, ⟨by (with_reducible repeat (first | apply Kd.R_alloc | apply Kd.R_drewN | apply Kd.R_drew)); exact HO_203000.out⟩, ⟨by (with_reducible repeat (first | apply Kd.V_alloc | apply Kd.V_drewN | apply Kd.V_drew)); exact HO_203001.out⟩, ⟨by (with_reducible repeat (first | apply Kd.R_alloc | apply Kd.R_drewN | apply Kd.R_drew)); exact HO_214000.out⟩, ⟨by (with_reducible repeat (first | apply Kd.S_alloc | apply Kd.S_drewN | apply Kd.S_drew)); exact HO_214001.out⟩, ⟨by (with_reducible repeat (first | apply Kd.R_alloc | apply Kd.R_drewN | apply Kd.R_drew)); exact HO_222000.out⟩, ⟨by (with_reducible repeat (first | apply Kd.S_alloc | apply Kd.S_drewN | apply Kd.S_drew)); exact HO_222001.out⟩, ⟨by (with_reducible repeat (first | apply Kd.R_alloc | apply Kd.R_drewN | apply Kd.R_drew)); exact HO_230000.out⟩, ⟨by (with_reducible repeat (first | apply Kd.S_alloc | apply Kd.S_drewN | apply Kd.S_drew)); exact HO_230001.out⟩, ⟨by (with_reducible repeat (first | refine blk_drewN ?_ _ | refine blk_drew ?_ | refine blk_alloc ?_ _)); exact BK202.out⟩, ⟨by (with_reducible repeat (first | refine blk_drewN ?_ _ | refine blk_drew ?_ | refine blk_alloc ?_ _)); exact BK213.out⟩, ⟨by (with_reducible repeat (first | refine blk_drewN ?_ _ | refine blk_drew ?_ | refine blk_alloc ?_ _)); exact BK221.out⟩, ⟨by (with_reducible repeat (first | refine blk_drewN ?_ _ | refine blk_drew ?_ | refine blk_alloc ?_ _)); exact BK229.out⟩, ⟨by repeat (first | (with_reducible exact HR233.out) | (with_reducible refine Kd.C_alloc ?_ _) | (with_reducible refine Kd.C_drewN ?_ _) | (with_reducible refine Kd.C_drew ?_) | exact HR233.out)⟩, ⟨by repeat (first | (with_reducible first | exact HB.out | apply below_alloc | apply pw_below_drewN | apply below_drew1 | refine below_set ?_ GE202.out | refine below_set ?_ GE213.out | refine below_set ?_ GE221.out | refine below_set ?_ GE229.out) | exact HB.out)⟩⟩
                                        · rw [if_neg c115] at H
                                          exact absurd H (by simp)
                                    · rw [if_neg c109] at H
                                      have c109b0 : decide (x16_5 < (t199.length : Int)) = false := decide_eq_false c109
                                      clear c109
                                      by_cases c126 : x15_5 = true
                                      · subst c126
                                        have H1 : (laws_FnCrash.l0 k5 (wrap64 (x13_3 + 1)) t196 t199 t206 t209) = some r := by rw [if_pos rfl] at H; exact H
                                        clear H
                                        have H := H1
                                        clear H1
                                        have H' := Aside0.mk H
                                        clear H
                                        have hnb127 := NB202_213.out
                                        have hnc127 := NB213_202.out
                                        have hnb128 := NB202_221.out
                                        have hnc128 := NB221_202.out
                                        have hnb129 := NB202_229.out
                                        have hnc129 := NB229_202.out
                                        have hcz130_0 : wr.cell? ⟨gb202, 0, none⟩ = some (.slice Ao14 t196.length co14) := (blk_cell BK202.out 0).trans rfl
                                        have hcz130_1 : wr.cell? ⟨gb202, 1, none⟩ = some (.slice Ao16 t199.length co16) := (blk_cell BK202.out 1).trans rfl
                                        have hfz130_0 := blk_frozen BK202.out 0
                                        have hfz130_1 := blk_frozen BK202.out 1
                                        go_wp2
                                        go_roundg k5
                                        case measure => have := HJ2.out; have := HJ10.out; have := HK3.out; have := HJ85.out; have := HK5.out; omega
                                        case rel => exact ⟨(wrap64 (x13_3 + 1)), (by first | rfl | (simp; done) | (simp [*]; done)), H', ⟨by have := HJ2.out; have := HJ10.out; have := HK3.out; have := HJ85.out; have := HK5.out; omega⟩, ⟨by (with_reducible repeat (first | apply Kd.R_alloc | apply Kd.R_drewN | apply Kd.R_drew)); exact HO_203000.out⟩, ⟨by (with_reducible repeat (first | apply Kd.V_alloc | apply Kd.V_drewN | apply Kd.V_drew)); exact HO_203001.out⟩, ⟨by (with_reducible repeat (first | apply Kd.R_alloc | apply Kd.R_drewN | apply Kd.R_drew)); exact HO_214000.out⟩, ⟨by (with_reducible repeat (first | apply Kd.S_alloc | apply Kd.S_drewN | apply Kd.S_drew)); exact HO_214001.out⟩, ⟨by (with_reducible repeat (first | apply Kd.R_alloc | apply Kd.R_drewN | apply Kd.R_drew)); exact HO_222000.out⟩, ⟨by (with_reducible repeat (first | apply Kd.S_alloc | apply Kd.S_drewN | apply Kd.S_drew)); exact HO_222001.out⟩, ⟨by (with_reducible repeat (first | apply Kd.R_alloc | apply Kd.R_drewN | apply Kd.R_drew)); exact HO_230000.out⟩, ⟨by (with_reducible repeat (first | apply Kd.S_alloc | apply Kd.S_drewN | apply Kd.S_drew)); exact HO_230001.out⟩, ⟨by (with_reducible repeat (first | refine blk_drewN ?_ _ | refine blk_drew ?_ | refine blk_alloc ?_ _)); exact BK202.out⟩, ⟨by (with_reducible repeat (first | refine blk_drewN ?_ _ | refine blk_drew ?_ | refine blk_alloc ?_ _)); exact BK213.out⟩, ⟨by (with_reducible repeat (first | refine blk_drewN ?_ _ | refine blk_drew ?_ | refine blk_alloc ?_ _)); exact BK221.out⟩, ⟨by (with_reducible repeat (first | refine blk_drewN ?_ _ | refine blk_drew ?_ | refine blk_alloc ?_ _)); exact BK229.out⟩, ⟨by repeat (first | (with_reducible first | exact HB.out | apply below_alloc | apply pw_below_drewN | apply below_drew1 | refine below_set ?_ GE202.out | refine below_set ?_ GE213.out | refine below_set ?_ GE221.out | refine below_set ?_ GE229.out) | exact HB.out)⟩⟩
                                      · replace c126 := Bool.eq_false_iff.mpr c126
                                        subst c126
                                        have H1 : (some false) = some r := by rw [if_neg (show ¬ (false = true) by decide)] at H; exact H
                                        clear H
                                        have H := H1
                                        clear H1
                                        obtain rfl := Option.some.inj H
                                        have hnb131 := NB202_213.out
                                        have hnc131 := NB213_202.out
                                        have hnb132 := NB202_221.out
                                        have hnc132 := NB221_202.out
                                        have hnb133 := NB202_229.out
                                        have hnc133 := NB229_202.out
                                        have hcz134_0 : wr.cell? ⟨gb202, 0, none⟩ = some (.slice Ao14 t196.length co14) := (blk_cell BK202.out 0).trans rfl
                                        have hcz134_1 : wr.cell? ⟨gb202, 1, none⟩ = some (.slice Ao16 t199.length co16) := (blk_cell BK202.out 1).trans rfl
                                        have hfz134_0 := blk_frozen BK202.out 0
                                        have hfz134_1 := blk_frozen BK202.out 1
                                        go_wp2
                                        go_ret
                                        exact ⟨by first | rfl | (simp [errW_none, errW_some] <;> rfl) | (simp only [← hji81]; first | rfl | (simp [errW_none, errW_some] <;> rfl)) | (simp [*, errW_none, errW_some] <;> rfl), by repeat (first | (with_reducible first | exact HB.out | apply below_alloc | apply pw_below_drewN | apply below_drew1 | refine below_set ?_ GE202.out | refine below_set ?_ GE213.out | refine below_set ?_ GE221.out | refine below_set ?_ GE229.out) | exact HB.out)⟩
                          · rw [if_neg c85] at H
                            exact absurd H (by simp)
                        · rw [if_neg c84] at H
                          exact absurd H (by simp)
                      · rw [if_neg c83] at H
                        exact absurd H (by simp)
                    · rw [if_neg c82] at H
                      exact absurd H (by simp)
                  · rw [if_neg c80] at H
                    have c80b0 : decide ((wrap64 (x13_3 * 32)) < (t206.length : Int)) = false := decide_eq_false c80
                    clear c80
                    obtain rfl := Option.some.inj H
                    have hnb135 := NB213_202.out
                    have hnc135 := NB202_213.out
                    have hnb136 := NB213_221.out
                    have hnc136 := NB221_213.out
                    have hnb137 := NB213_229.out
                    have hnc137 := NB229_213.out
                    have hcz138_0 : wr.cell? ⟨gb213, 0, none⟩ = some (.slice Ao22 t206.length co22) := (blk_cell BK213.out 0).trans rfl
                    have hcz138_1 : wr.cell? ⟨gb213, 1, none⟩ = some (.slice Ao25 t209.length co25) := (blk_cell BK213.out 1).trans rfl
                    have hfz138_0 := blk_frozen BK213.out 0
                    have hfz138_1 := blk_frozen BK213.out 1
                    go_wp2
                    go_ret
                    exact ⟨by first | rfl | (simp [errW_none, errW_some] <;> rfl) | (simp [*, errW_none, errW_some] <;> rfl), by repeat (first | (with_reducible first | exact HB.out | apply below_alloc | apply pw_below_drewN | apply below_drew1 | refine below_set ?_ GE202.out | refine below_set ?_ GE213.out | refine below_set ?_ GE221.out | refine below_set ?_ GE229.out) | exact HB.out)⟩

/-- THE ONE PURE STATEMENT of laws_FnCrash: yours. -/
def laws_FnCrash.Pure : Prop := ∀ (l0 : List Int) (l1 : List Int), l0.length ≤ maxLen → l0.length * 1 ≤ 140737488351232 → (∀ x ∈ l0, (Lit.int .u8 x).wf = true) → l1.length ≤ maxLen → l1.length * 1 ≤ 140737488351232 → (∀ x ∈ l1, (Lit.int .u8 x).wf = true) → ∃ k, laws_FnCrash.f k l0 l1 = some true
theorem laws_FnCrash.walk (P : laws_FnCrash.Pure) (a0 : Option Addr) (len0 cap0 : Nat) (z0 : List Int) (a1 : Option Addr) (len1 cap1 : Nat) (z1 : List Int) (w : World) (w0 : (a0 = none ∧ len0 = 0 ∧ cap0 = 0 ∧ z0 = []) ∨ ∃ x, a0 = some x ∧ len0 ≤ cap0 ∧ cap0 ≤ maxLen ∧ z0.length = cap0 ∧ (∀ i, i < z0.length → w.cell? (x.add i) = some (.int .u8 (z0.getD i 0))) ∧ ∀ n ∈ z0, (Lit.int .u8 n).wf = true) (y0 : len0 * 1 ≤ 140737488351232) (w1 : (a1 = none ∧ len1 = 0 ∧ cap1 = 0 ∧ z1 = []) ∨ ∃ x, a1 = some x ∧ len1 ≤ cap1 ∧ cap1 ≤ maxLen ∧ z1.length = cap1 ∧ (∀ i, i < z1.length → w.cell? (x.add i) = some (.int .u8 (z1.getD i 0))) ∧ ∀ n ∈ z1, (Lit.int .u8 n).wf = true) (y1 : len1 * 1 ≤ 140737488351232) :
    Calls Try.prog 3 #[.slice a0 len0 cap0, .slice a1 len1 cap1] w fun e w' => e = .returned (.bool true) ∧ Below w.heap.size w w' := by
  obtain ⟨l0, rfl, hr0, hm0, hw0, hc0⟩ := ReadsInt.ofRowC w0
  obtain ⟨l1, rfl, hr1, hm1, hw1, hc1⟩ := ReadsInt.ofRowC w1
  obtain ⟨k, h⟩ := P l0 l1 hm0 y0 hw0 hm1 y1 hw1
  refine (laws_FnCrash.calls k _ _ l0 _ _ l1 true w (Kd.C_of_reads (d := (0 : Int)) (h1 := fun _ => rfl) hr0) hc0 (Kd.C_of_reads (d := (0 : Int)) (h1 := fun _ => rfl) hr1) hc1 h).mono ?_
  rintro e w' ⟨rfl, hd⟩
  exact ⟨rfl, hd⟩

end Go.Proofs.Ytmkemagjedihmaa.XC
