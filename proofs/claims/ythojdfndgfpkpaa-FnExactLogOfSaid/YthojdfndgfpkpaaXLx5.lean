-- Written by a program of this session (xp.py over the kit's printer, with functions proved by hand). Lean checks it.
import Derived.Test.YthojdfndgfpkpaaXLx0
import Derived.Test.YthojdfndgfpkpaaXLx4
namespace Go.Proofs.Ythojdfndgfpkpaa.XL
open Go.Proofs.Ythojdfndgfpkpaa.Open Go.Proofs.Ythojdfndgfpkpaa.OpenWin Go.Proofs.Ythojdfndgfpkpaa.OpenCopy
open Go.RowKit Go.Proofs.YthojdfndgfpkpaaW.PrintWords Go.Proofs.YthojdfndgfpkpaaW.PrintLast Go.Proofs.YthojdfndgfpkpaaW.PrintMore
attribute [local go_sem] max2_int min2_int max_two min_two max_three min_three max_four min_four   -- for this text's walks alone
set_option linter.unusedVariables false
set_option linter.unusedSimpArgs false

/-! ### impl_put: function 103 -/
def impl_put.f (l0 : List Int) (a1_0 : Int) (l1_1 : List Int) : Option (List Int) := if 0 ≤ a1_0 ∧ a1_0 ≤ 127 ∧ l1_1.length = 32 ∧ l0.length ≤ 1048576 then some (OpenCopy.putL l0 a1_0.toNat l1_1) else none
/-- the last statement, over whatever row stands in b by then -/
theorem impl_put.facts (P0_ : Nat → Prop) (w0 w W : World) (v : Value) (L S : List Int) (i : Nat) (A1 : Option Addr) (c1 : Nat) (hS : S.length = 32) (hL : 32 * (i + 1) ≤ L.length) (hi : i ≤ 127)
    (hR : Kd.R (Kd.int .u8) 5 W w0.heap.size (fun k => P0_ k ∨ w.heap.size ≤ k) v L) (hB : Below w0.heap.size w0 W) (hK : Kept w W (fun k => P0_ k)) (hsrc : ∀ W_, Kept w W_ (fun k_ => P0_ k_) → Kd.C (Kd.int .u8) W_ A1 S.length S) (hz : w0.heap.size ≤ w.heap.size) :
    ∃ (g cap : Nat) (ad : Addr) (cur : Array Value), v = .slice (some ⟨g, 0, none⟩) L.length cap ∧ A1 = some ad ∧ W.heap[g]? = some (.cells cur 5 (0, 0)) ∧ 32 * i + (nums .u8 S).length ≤ cur.size ∧ (∀ j u, (nums .u8 S)[j]? = some u → W.cell? (ad.add j) = some u) ∧
      (∀ W', (Instr.slice 33 (.slice (some ⟨g, 0, none⟩) L.length cap) (some (.int .i64 ((32 * i : Nat) : Int))) none none).run Try.prog W' = .ok (.slice (some ⟨g, 32 * i, none⟩) (L.length - 32 * i) (cap - 32 * i)) W') ∧
      Aside0 (Kd.R (Kd.int .u8) 5 (W.setRow g (cur.toList.take (32 * i) ++ (nums .u8 S ++ cur.toList.drop (32 * i + (nums .u8 S).length))).toArray) w0.heap.size (fun k => P0_ k ∨ w.heap.size ≤ k) v (OpenCopy.spliced L S (32 * i)) ∧
        Below w0.heap.size w0 (W.setRow g (cur.toList.take (32 * i) ++ (nums .u8 S ++ cur.toList.drop (32 * i + (nums .u8 S).length))).toArray) ∧ Kept w (W.setRow g (cur.toList.take (32 * i) ++ (nums .u8 S ++ cur.toList.drop (32 * i + (nums .u8 S).length))).toArray) (fun k => P0_ k)) := by
  obtain ⟨g, cap, rfl, hg1, hg2, _⟩ := Kd.R_form hR (by omega)
  obtain ⟨cur, q1, q2, q3, q4, q5, q6, q7, q8⟩ := OpenCopy.R_cur hR
  have hC := hsrc W hK
  obtain ⟨ad, rfl, hcell⟩ := hC.2.2 (by omega)
  obtain ⟨i0, hi0, _, hz1, _⟩ := info_parts info5
  have hnl : (nums .u8 S).length = 32 := by simp [nums, hS]
  refine ⟨g, cap, ad, cur, rfl, rfl, q1, by omega, fun j u hj => ?_, fun W' => OpenCopy.cut_at 33 5 .i64 Try.underlying33 hi0 hz1 g L.length cap (32 * i) (by omega) (by omega) W', ⟨?_, ?_, ?_⟩⟩
  · have hjl : j < S.length := by have := (List.getElem?_eq_some_iff.1 hj).1; omega
    obtain ⟨c, hc1, hc2, hc3⟩ := hcell j _ (List.getElem?_eq_getElem hjl)
    have hc2' : c = [.int .u8 S[j]] := hc2
    have := hc3 0 (.int .u8 S[j]) (by rw [hc2']; rfl)
    rw [show (Kd.int .u8).sz = 1 from rfl, Nat.mul_one, Nat.add_zero] at this
    rw [this]
    rw [← hj]
    simp [nums, hjl]
  · exact OpenCopy.R_copy q1 rfl q3 q4 q5 q6 q7 q8 (by omega)
  · exact below_setRow hB q7 _
  · exact OpenCopy.setRow_kept hK _ q8
set_option maxHeartbeats 8000000 in
set_option maxRecDepth 100000 in
theorem impl_put.calls (P0_ : Nat → Prop) (u9000_ : Value) (l0 : List Int) (a1_0 : Int) (A1_1 : Option Addr) (c1_1 : Nat) (l1_1 : List Int) (r : List Int) (w0 w : World) (hB : Below w0.heap.size w0 w) (ho0 : Kd.R (Kd.int .u8) 5 w w0.heap.size P0_ u9000_ l0) (hr1_1 : ∀ W_, Kept w W_ (fun k_ => P0_ k_) → Kd.C (Kd.int .u8) W_ A1_1 l1_1.length l1_1) (hc1_1 : l1_1.length ≤ c1_1) (h : impl_put.f l0 a1_0 l1_1 = some r) :
    Calls Try.prog 103 #[u9000_, .agg #[.int .i64 a1_0, .slice A1_1 l1_1.length c1_1]] w fun e w' => ∃ v0_ : Value, e = .returned (v0_) ∧ Kd.R (Kd.int .u8) 5 w' w0.heap.size (fun k_ => (P0_ k_ ∨ w.heap.size ≤ k_)) v0_ r ∧ Below w0.heap.size w0 w' ∧ Kept w w' (fun k_ => P0_ k_) := by
  have hu := Try.underlying116
  have infoE : (Try.prog.info? 5).map (fun i => (i.zero, i.size, i.bytes)) = some (some (.int .u8 0), 1, 1) := by kernel_rfl
  unfold impl_put.f at h
  have hc : 0 ≤ a1_0 ∧ a1_0 ≤ 127 ∧ l1_1.length = 32 ∧ l0.length ≤ 1048576 := Decidable.byContradiction fun hs => by rw [if_neg hs] at h; cases h
  rw [if_pos hc] at h
  have hr := Option.some.inj h
  clear h
  obtain ⟨h0, h1, h2, h3⟩ := hc
  obtain ⟨i, rfl⟩ : ∃ i : Nat, a1_0 = (i : Int) := ⟨a1_0.toNat, by omega⟩
  rw [Int.toNat_natCast] at hr
  obtain ⟨A, c, rfl⟩ := Kd.R_slice ho0
  have hz : w0.heap.size ≤ w.heap.size := hB.size
  obtain ⟨Wb, hWb⟩ : ∃ Wb, Wb = w.alloc (.cells #[.int .i64 (i : Int), .slice A1_1 l1_1.length c1_1] 116) := ⟨_, rfl⟩
  have hO1 : Kd.R (Kd.int .u8) 5 Wb w0.heap.size (fun k => P0_ k ∨ w.heap.size ≤ k) (.slice A l0.length c) l0 := by rw [hWb]; exact Kd.R_mono (Kd.R_alloc ho0 _) (fun k hk => .inl hk)
  have hB1 : Below w0.heap.size w0 Wb := by rw [hWb]; exact below_alloc hB _
  have hK1 : Kept w Wb (fun k => P0_ k) := by rw [hWb]; exact (Kept.refl w _).alloc _
  have hx0 : Wb.cell? ⟨w.heap.size, 0, none⟩ = some (.int .i64 (i : Int)) := by rw [hWb]; go_simp
  have hx1 : Wb.cell? ⟨w.heap.size, 1, none⟩ = some (.slice A1_1 l1_1.length c1_1) := by rw [hWb]; go_simp
  have hg0 : w.heap.size < Wb.heap.size := by rw [hWb]; simp
  have hbox : ∀ k, (Value.slice A l0.length c).ownBlock = some k → k < w.heap.size := Kd.R_lt ho0
  subst hWb
  by_cases c1 : (l0.length : Int) < 32 * ((i : Int) + 1)
  · -- it grows
    have d1 : decide ((l0.length : Int) < 32 * ((i : Int) + 1)) = true := decide_eq_true c1
    have hd0 : (0 : Int) ≤ 32 * ((i : Int) + 1) - (l0.length : Int) := by omega
    have hty : (32 * ((i : Int) + 1) - (l0.length : Int)).toNat = 32 * (i + 1) - l0.length := by omega
    have HR := Aside0.mk hr
    have HO1 := Aside0.mk hO1
    have HB1 := Aside0.mk hB1
    have HK1 := Aside0.mk hK1
    have HX0 := Aside0.mk hx0
    have HX1 := Aside0.mk hx1
    have HSRC := Aside0.mk hr1_1
    have HG0 := Aside0.mk hg0
    have HBOX := Aside0.mk hbox
    have HTY := Aside0.mk hty
    have H2 := Aside0.mk h2
    have HZ := Aside0.mk hz
    clear hr hO1 hB1 hK1 hx0 hx1 hr1_1 hB ho0 hg0 hbox hty h2 hz
    go_enter Try.func103, Try.ntmps103
    have INFO := Aside0.mk infoE
    clear infoE
    go_wp2_with (first
      | ((with_reducible refine gate_builtin (b := .append) (xs := #[.tmp 14, .tmp 18]) rfl ?_); at_builtin; refine Kd.R_append_zeros (Kd.int .u8) (w0 := w0) w0.heap.size rfl (.tmp 14) (.tmp 18) 33 3 5 (.int .u8 0) 1 rfl Try.underlying33 Try.underlying3 INFO.out rfl (by decide) (by decide) (.slice A l0.length c) l0 0 (32 * ((i : Int) + 1) - (l0.length : Int)) (fun k => P0_ k ∨ w.heap.size ≤ k) rfl rfl rfl ?aF ?aO hd0 ?aB ?aS ?aL ?_; (case aO => exact HO1.out); (case aB => exact HB1.out); (case aF => exact (fun k hk => .inr (by have := HG0.out; omega))); (case aS => exact (below_size HB1.out)); (case aL => omega); intro v1 w1 ho hb hg hat; have HO2 := Aside0.mk ho; have HB2 := Aside0.mk hb; have HGR := Aside0.mk hg; have HAT := Aside0.mk hat; clear ho hb hg hat))
    have HX0b := Aside0.mk (cell_grown HGR.out HX0.out (fun h => absurd (HBOX.out _ h.symm) (Nat.lt_irrefl _)))
    have HX1b := Aside0.mk (cell_grown HGR.out HX1.out (fun h => absurd (HBOX.out _ h.symm) (Nat.lt_irrefl _)))
    have HK2 := Aside0.mk (Kept.of_grown HGR.out HK1.out (fun k hk => HO1.out.1 k hk))
    have HLL := Aside0.mk (show (32 * (i + 1)) ≤ (l0 ++ List.replicate (32 * ((i : Int) + 1) - (l0.length : Int)).toNat 0).length by simp; omega)
    have HRL := Aside0.mk (show spliced (l0 ++ List.replicate (32 * ((i : Int) + 1) - (l0.length : Int)).toNat 0) l1_1 (32 * i) = r by rw [HTY.out]; exact HR.out)
    clear HO1 HB1 HK1 HX0 HX1 HGR HAT HTY HR HBOX
    generalize (l0 ++ List.replicate (32 * ((i : Int) + 1) - (l0.length : Int)).toNat 0) = L at HO2 HLL HRL
    obtain ⟨g, cap, ad, cur, rfl, rfl, f1, f2, f3, f4, HF⟩ := impl_put.facts P0_ w0 w w1.drew v1 L l1_1 i A1_1 c1_1 H2.out HLL.out (by omega) HO2.out (by apply below_drew1; exact HB2.out) HK2.out HSRC.out HZ.out
    have F1 := Aside0.mk f1
    have F2 := Aside0.mk f2
    have F3 := Aside0.mk f3
    have F4 := Aside0.mk f4
    clear f1 f2 f3 f4 HO2 HB2 HK2 HSRC
    have x0 := HX0b.out
    have x1 := HX1b.out
    have f4 := F4.out
    push_cast at f4
    have hwr : IntKind.i64.wrap (32 * (i : Int)) = 32 * (i : Int) := by rw [IntKind.wrap_i64]; omega
    refine wp_region_still_tail 7 (by kernel_rfl) (by kernel_rfl) ?_
    simp only [List.take_succ_cons, List.take_zero, List.drop_succ_cons, List.drop_zero]
    still_step
    still_step
    still_step
    still_step
    refine wpStill_step (fun K hK => ?_)
    go_simp
    refine hK _ ?_
    clear hK K
    still_step
    still_step
    refine wpStill_nil ?_
    refine wpList_copy_own rfl (.tmp 24) (.tmp 26) 33 33 rfl 5 Try.underlying33 (by kernel_rfl) g (32 * i) (L.length - 32 * i) (cap - 32 * i) ad l1_1.length c1_1 rfl rfl cur 5 F1.out (nums .u8 l1_1) ?cn F3.out F2.out ?co ?_
    case cn => have h1_ := H2.out; have h2_ := HLL.out; rw [show (nums .u8 l1_1).length = l1_1.length by simp [nums]]; exact (Nat.min_eq_left (by omega)).symm
    case co => intro v hv; simp only [nums, List.mem_map] at hv; obtain ⟨x, _, rfl⟩ := hv; rfl
    obtain ⟨W3, hW3⟩ : ∃ W3, W3 = ((w1.drew).setRow g (cur.toList.take (32 * i) ++ (nums .u8 l1_1 ++ cur.toList.drop (32 * i + (nums .u8 l1_1).length))).toArray) := ⟨_, rfl⟩
    have HF2 := Aside0.mk HF.out
    have e3 : ({ heap := w1.heap, tape := w1.tape, drawn := w1.drawn + 1, os := w1.os, output := w1.output } : World) = w1.drew := rfl
    rw [e3, ← hW3]
    rw [← hW3] at HF2
    have HW3 := Aside0.mk hW3
    clear hW3 HF e3
    go_wp2
    go_ret
    refine ⟨_, rfl, ?_, HF2.out.2.1, HF2.out.2.2⟩
    rw [← HRL.out]; exact HF2.out.1
  · -- it fits
    have d1 : decide ((l0.length : Int) < 32 * ((i : Int) + 1)) = false := decide_eq_false c1
    have hrl : spliced l0 l1_1 (32 * i) = r := by
      rw [← hr]
      show _ = spliced (l0 ++ List.replicate (32 * (i + 1) - l0.length) 0) l1_1 (32 * i)
      rw [show 32 * (i + 1) - l0.length = 0 by omega]; simp
    have hll : 32 * (i + 1) ≤ l0.length := by omega
    have HX0b := Aside0.mk hx0
    have HX1b := Aside0.mk hx1
    have HLL := Aside0.mk hll
    have HRL := Aside0.mk hrl
    have H2 := Aside0.mk h2
    obtain ⟨g, cap, ad, cur, hv, rfl, f1, f2, f3, f4, HF⟩ := impl_put.facts P0_ w0 w (w.alloc (.cells #[.int .i64 (i : Int), .slice A1_1 l1_1.length c1_1] 116)).drew (.slice A l0.length c) l0 l1_1 i A1_1 c1_1 h2 hll (by omega) hO1 (by apply below_drew1; exact hB1) hK1 hr1_1 hz
    injection hv with hv1 _ hv2
    subst hv1 hv2
    have F1 := Aside0.mk f1
    have F2 := Aside0.mk f2
    have F3 := Aside0.mk f3
    have F4 := Aside0.mk f4
    clear f1 f2 f3 f4 hr hrl hll h2 hO1 hB1 hK1 hx0 hx1 hr1_1 hB ho0 hg0 hbox hz infoE
    go_enter Try.func103, Try.ntmps103
    go_wp2
    generalize (w.alloc (.cells #[.int .i64 (i : Int), .slice (some ad) l1_1.length c1_1] 116)) = W1 at *
    have x0 := HX0b.out
    have x1 := HX1b.out
    have f4 := F4.out
    push_cast at f4
    have hwr : IntKind.i64.wrap (32 * (i : Int)) = 32 * (i : Int) := by rw [IntKind.wrap_i64]; omega
    refine wp_region_still_tail 7 (by kernel_rfl) (by kernel_rfl) ?_
    simp only [List.take_succ_cons, List.take_zero, List.drop_succ_cons, List.drop_zero]
    still_step
    still_step
    still_step
    still_step
    refine wpStill_step (fun K hK => ?_)
    go_simp
    refine hK _ ?_
    clear hK K
    still_step
    still_step
    refine wpStill_nil ?_
    refine wpList_copy_own rfl (.tmp 24) (.tmp 26) 33 33 rfl 5 Try.underlying33 (by kernel_rfl) g (32 * i) (l0.length - 32 * i) (c - 32 * i) ad l1_1.length c1_1 rfl rfl cur 5 F1.out (nums .u8 l1_1) ?cn F3.out F2.out ?co ?_
    case cn => have h1_ := H2.out; have h2_ := HLL.out; rw [show (nums .u8 l1_1).length = l1_1.length by simp [nums]]; exact (Nat.min_eq_left (by omega)).symm
    case co => intro v hv; simp only [nums, List.mem_map] at hv; obtain ⟨x, _, rfl⟩ := hv; rfl
    obtain ⟨W3, hW3⟩ : ∃ W3, W3 = ((W1.drew).setRow g (cur.toList.take (32 * i) ++ (nums .u8 l1_1 ++ cur.toList.drop (32 * i + (nums .u8 l1_1).length))).toArray) := ⟨_, rfl⟩
    have HF2 := Aside0.mk HF.out
    have e3 : ({ heap := W1.heap, tape := W1.tape, drawn := W1.drawn + 1, os := W1.os, output := W1.output } : World) = W1.drew := rfl
    rw [e3, ← hW3]
    rw [← hW3] at HF2
    have HW3 := Aside0.mk hW3
    clear hW3 HF e3
    go_wp2
    go_ret
    refine ⟨_, rfl, ?_, HF2.out.2.1, HF2.out.2.2⟩
    rw [← HRL.out]; exact HF2.out.1



/-! ### impl_Device_read: function 74 -/
def impl_Device_read.l0 : Nat → List Int → List (S116) → Int → Int → Option (List Int)
  | 0, _, _, _, _ => none
  | k + 1, x3, x10, x11, x12 => if x12 < x11 then (if 0 ≤ x12 then (if x12 < (x10.length : Int) then ((impl_put.f x3 ((rd_T116 x10 x12).f0) ((rd_T116 x10 x12).f1)).bind fun t232 => (impl_Device_read.l0 k t232 x10 x11 (wrap64 (x12 + 1)))) else (none)) else (none)) else (some x3)
def impl_Device_read.f (k : Nat) (l0_0 : List Int) (l0_1 : List (S116)) : Option (List Int) := (slices_Clone_byte_byte.f l0_0).bind fun t227 => (impl_Device_read.l0 k t227 l0_1 (l0_1.length : Int) 0)
theorem impl_Device_read.mono_l : ∀ k, (∀ y0 y1 y2 y3, LeO (impl_Device_read.l0 k y0 y1 y2 y3) (impl_Device_read.l0 (k + 1) y0 y1 y2 y3))
  | 0 => fun _ _ _ _ r h => by simp [impl_Device_read.l0] at h
  | k + 1 => by
    have ih0 := impl_Device_read.mono_l k
    · intro y0 y1 y2 y3
      unfold impl_Device_read.l0
      repeat' first
      | (with_reducible exact ih0 _ _ _ _)
      | (with_reducible exact LeO.refl _)
      | (with_reducible exact LeO.none _)
      | (with_reducible refine LeO.ite ?_ ?_)
      | (with_reducible refine LeO.bind ?_ (fun _ => ?_))
      | exact ih0 _ _ _ _
      | exact LeO.none _
      | refine LeO.ite ?_ ?_
      | refine LeO.bind ?_ (fun _ => ?_)
theorem impl_Device_read.mono : ∀ a0 a1 k, LeO (impl_Device_read.f k a0 a1) (impl_Device_read.f (k + 1) a0 a1) := by
  intro a0 a1 k
  have ih0 := impl_Device_read.mono_l k
  unfold impl_Device_read.f
  repeat' first
      | (with_reducible exact ih0 _ _ _ _)
      | (with_reducible exact LeO.refl _)
      | (with_reducible exact LeO.none _)
      | (with_reducible refine LeO.ite ?_ ?_)
      | (with_reducible refine LeO.bind ?_ (fun _ => ?_))
      | exact ih0 _ _ _ _
      | exact LeO.none _
      | refine LeO.ite ?_ ?_
      | refine LeO.bind ?_ (fun _ => ?_)
set_option maxHeartbeats 8000000 in
set_option maxRecDepth 100000 in
theorem impl_Device_read.calls (k : Nat) (A0_0 : Option Addr) (c0_0 : Nat) (l0_0 : List Int) (A0_1 : Option Addr) (c0_1 : Nat) (l0_1 : List (S116)) (r : List Int) (w : World) (hr0_0 : Kd.C (Kd.int .u8) w A0_0 l0_0.length l0_0) (hc0_0 : l0_0.length ≤ c0_0) (hr0_1 : Kd.C k116 w A0_1 l0_1.length l0_1) (hc0_1 : l0_1.length ≤ c0_1) (h : impl_Device_read.f k l0_0 l0_1 = some r) :
    Calls Try.prog 74 #[.agg #[.slice A0_0 l0_0.length c0_0, .slice A0_1 l0_1.length c0_1]] w fun e w' => ∃ v0_ : Value, e = .returned (v0_) ∧ Kd.R (Kd.int .u8) 5 w' w.heap.size (fun _ => True) v0_ r ∧ Below w.heap.size w w' := by
  have hu50 := Try.underlying50
  have hu116 := Try.underlying116
  have HR0_0 := Aside0.mk hr0_0
  have HC0_0 := Aside0.mk hc0_0
  clear hr0_0 hc0_0
  have HR0_1 := Aside0.mk hr0_1
  have HC0_1 := Aside0.mk hc0_1
  clear hr0_1 hc0_1
  have HB := Aside0.mk (Below.refl w.heap.size w)
  have H : ((slices_Clone_byte_byte.f l0_0).bind fun t227 => (impl_Device_read.l0 k t227 l0_1 (l0_1.length : Int) 0)) = some r := h
  clear h
  replace H := Option.bind_eq_some_iff.mp H
  obtain ⟨t227, A20, H⟩ := H
  replace H : (impl_Device_read.l0 k t227 l0_1 (l0_1.length : Int) 0) = some r := H
  have A2 := Aside0.mk A20
  clear A20
  have H' := Aside0.mk H
  clear H
  go_enter Try.func74, Try.ntmps74
  go_wp2_with (first | ((with_reducible refine gate_dst (N := 1) rfl ?_); refine box_event ?hg (N := 1) ?hd (cs := #[.slice A0_0 l0_0.length c0_0, .slice A0_1 l0_1.length c0_1]) (t := 50) ?hr ?_; (case hd => rfl); (case hg => rfl); (case hr => first | (go_simp; done) | (go_simp; rfl)); intro gb226 hg w3 hbox hb; have n0_ := Aside0.mk (below_step (by repeat (first | (with_reducible first | exact HB.out | apply below_alloc | apply pw_below_drewN | apply below_drew1) | exact HB.out)) hb); have n1_ := Aside0.mk (hbox); have n2_ := Aside0.mk ((by rw [hg]; exact (below_size (by repeat (first | (with_reducible first | exact HB.out | apply below_alloc | apply pw_below_drewN | apply below_drew1) | exact HB.out))) : w.heap.size ≤ gb226)); have n3_ := Aside0.mk ((by rw [hg]; exact (below_size (by repeat (first | (with_reducible first | exact HB.out | apply below_alloc | apply pw_below_drewN | apply below_drew1) | exact HB.out))) : w.heap.size ≤ gb226)); clear HB; have HB := n0_; have BK226 := n1_; have GW226 := n2_; have GE226 := n3_; clear n0_ n1_ n2_ n3_; clear hb hbox hg; have hcz4_0 : w3.cell? ⟨gb226, 0, none⟩ = some (.slice A0_0 l0_0.length c0_0) := (blk_cell BK226.out 0).trans rfl; have hcz4_1 : w3.cell? ⟨gb226, 1, none⟩ = some (.slice A0_1 l0_1.length c0_1) := (blk_cell BK226.out 1).trans rfl; have hfz4_0 := blk_frozen BK226.out 0; have hfz4_1 := blk_frozen BK226.out 1) | ((with_reducible refine gate_callee (f := 102) rfl ?_); refine goesL_ (some 8) rfl rfl Try.func102 (by kernel_rfl) rfl #[.slice A0_0 l0_0.length c0_0] rfl (by (try simp only [List.map_toArray, List.map_cons, List.map_nil]); first | done | rfl | (simp only [List.length_drop, List.length_take]; rfl)) ?_; (with_reducible refine (slices_Clone_byte_byte.calls _ _ l0_0 t227 _ ?side1 ?side2 A2.out).mono ?_); (case side1 => repeat (first | exact (Kd.C_below HR0_0.out HB.out) | (with_reducible refine Kd.C_alloc ?_ _) | (with_reducible refine Kd.C_drewN ?_ _) | (with_reducible refine Kd.C_drew ?_))); (case side2 => exact HC0_0.out); rintro e w5 ⟨v228, rfl, ho0, hb⟩; refine ⟨_, rfl, ?_⟩; have n0_ := Aside0.mk (Kd.R_lower ho0 (below_size (by repeat (first | (with_reducible first | exact HB.out | apply below_alloc | apply pw_below_drewN | apply below_drew1 | refine below_set ?_ GE226.out) | exact HB.out)))); have n1_ := Aside0.mk (blk_below (g := gb226) (o := .cells #[.slice A0_0 l0_0.length c0_0, .slice A0_1 l0_1.length c0_1] 50 (0, 0)) (by (with_reducible repeat (first | refine blk_drewN ?_ _ | refine blk_drew ?_ | refine blk_alloc ?_ _)); exact BK226.out) hb); have n2_ := Aside0.mk (below_step (by repeat (first | (with_reducible first | exact HB.out | apply below_alloc | apply pw_below_drewN | apply below_drew1 | refine below_set ?_ GE226.out) | exact HB.out)) hb); clear BK226; clear HB; have HO229 := n0_; have BK226 := n1_; have HB := n2_; clear n0_ n1_ n2_; (try clear hb); (try clear hb2); (try clear hk); (try clear hi); (try clear ho0); have hcz6_0 : w5.cell? ⟨gb226, 0, none⟩ = some (.slice A0_0 l0_0.length c0_0) := (blk_cell BK226.out 0).trans rfl; have hcz6_1 : w5.cell? ⟨gb226, 1, none⟩ = some (.slice A0_1 l0_1.length c0_1) := (blk_cell BK226.out 1).trans rfl; have hfz6_0 := blk_frozen BK226.out 0; have hfz6_1 := blk_frozen BK226.out 1))
  go_loopg [3, 12] k (fun kq v3 v12 w' => ∃ (x3_1 : List Int) (x12_1 : Int), v12 = .int .i64 x12_1 ∧ Aside0 (impl_Device_read.l0 kq x3_1 l0_1 (l0_1.length : Int) x12_1 = some r) ∧ Aside0 (kq ≤ k) ∧ Aside0 (Kd.R (Kd.int .u8) 5 w' w.heap.size (fun _ => True) v3 x3_1) ∧ Aside0 (w'.heap[gb226]? = some (.cells #[(.slice A0_0 l0_0.length c0_0), (.slice A0_1 l0_1.length c0_1)] 50 (0, 0))) ∧ Aside0 (Below w.heap.size w w'))
  case atStart => exact ⟨(t227), (0), (by first | rfl | (simp; done) | (simp [*]; done)), H', ⟨Nat.le_refl _⟩, ⟨by (with_reducible repeat (first | apply Kd.R_alloc | apply Kd.R_drewN | apply Kd.R_drew)); exact HO229.out⟩, ⟨by (with_reducible repeat (first | refine blk_drewN ?_ _ | refine blk_drew ?_ | refine blk_alloc ?_ _)); exact BK226.out⟩, ⟨by repeat (first | (with_reducible first | exact HB.out | apply below_alloc | apply pw_below_drewN | apply below_drew1 | refine below_set ?_ GE226.out) | exact HB.out)⟩⟩
  case round =>
    clear H'
    try clear c1
    try clear p2
    try clear hcz4_0
    try clear hcz4_1
    try clear hcz6_0
    try clear hcz6_1
    try clear hfz4_0
    try clear hfz4_1
    try clear hfz6_0
    try clear hfz6_1
    obtain ⟨x3_1, x12_1, rfl, HA, HK1, HO_3, BK226, HB⟩ := hrel
    cases gk with
    | zero => exact absurd HA.out (by simp [impl_Device_read.l0])
    | succ k1 =>
      have H := HA.out
      clear HA
      simp only [impl_Device_read.l0] at H
      by_cases c7 : x12_1 < (l0_1.length : Int)
      · rw [if_pos c7] at H
        have c7b0 : decide (x12_1 < (l0_1.length : Int)) = true := decide_eq_true c7
        clear c7
        by_cases c8 : 0 ≤ x12_1
        · rw [if_pos c8] at H
          have c8b0 : decide (0 ≤ x12_1) = true := decide_eq_true c8
          clear c8
          by_cases c9 : x12_1 < (l0_1.length : Int)
          · rw [if_pos c9] at H
            have c9b0 : decide (x12_1 < (l0_1.length : Int)) = true := decide_eq_true c9
            clear c9
            replace H := Option.bind_eq_some_iff.mp H
            obtain ⟨t232, A100, H⟩ := H
            replace H : (impl_Device_read.l0 k1 t232 l0_1 (l0_1.length : Int) (wrap64 (x12_1 + 1))) = some r := H
            have A10 := Aside0.mk A100
            clear A100
            have H' := Aside0.mk H
            clear H
            have p230 : 0 ≤ (x12_1 : Int) := of_decide_eq_true (by first | (with_reducible assumption) | assumption)
            have q230 : x12_1 < (l0_1.length : Int) := of_decide_eq_true (by first | (with_reducible assumption) | assumption)
            obtain ⟨ad230, A230_1, c230_1, e230, hx230_0, hx230_1, hl230_1, hi230_1⟩ := at_T116 HR0_1.out x12_1 p230 q230
            cases e230
            replace hx230_0 := (HB.out.cell (World.block_lt_of_cell? w _ hx230_0)).trans hx230_0
            replace hx230_1 := (HB.out.cell (World.block_lt_of_cell? w _ hx230_1)).trans hx230_1
            have HR230_1 := Aside0.mk hi230_1
            have HC230_1 := Aside0.mk hl230_1
            clear hi230_1 hl230_1
            replace p230 := eq_true p230
            replace q230 := eq_true q230
            go_wp2_with (first | ((with_reducible refine gate_dst (N := 5) rfl ?_); refine box_event ?hg (N := 5) ?hd (cs := #[.int .i64 0, .slice none 0 0]) (t := 116) ?hr ?_; (case hd => rfl); (case hg => rfl); (case hr => first | (go_simp; done) | (go_simp; rfl)); intro gb231 hg w11 hbox hb; have n0_ := Aside0.mk (Kd.R_below (by (with_reducible repeat (first | apply Kd.R_alloc | apply Kd.R_drewN | apply Kd.R_drew)); exact HO_3.out) hb); have n1_ := Aside0.mk (blk_below (g := gb226) (o := .cells #[.slice A0_0 l0_0.length c0_0, .slice (some ad230) l0_1.length c0_1] 50 (0, 0)) (by (with_reducible repeat (first | refine blk_drewN ?_ _ | refine blk_drew ?_ | refine blk_alloc ?_ _)); exact BK226.out) hb); have n2_ := Aside0.mk (below_step (by repeat (first | (with_reducible first | exact HB.out | apply below_alloc | apply pw_below_drewN | apply below_drew1 | refine below_set ?_ GE226.out) | exact HB.out)) hb); have n3_ := Aside0.mk (hbox); have n4_ := Aside0.mk ((by rw [hg]; exact (below_size (by repeat (first | (with_reducible first | exact HB.out | apply below_alloc | apply pw_below_drewN | apply below_drew1 | refine below_set ?_ GE226.out) | exact HB.out))) : w.heap.size ≤ gb231)); have n5_ := Aside0.mk ((by rw [hg]; exact (below_size (by repeat (first | (with_reducible first | exact HB.out | apply below_alloc | apply pw_below_drewN | apply below_drew1 | refine below_set ?_ GE226.out) | exact HB.out))) : w.heap.size ≤ gb231)); have n6_ := Aside0.mk ((by rw [hg]; exact Nat.ne_of_lt (blk_lt (g := gb226) (o := .cells #[.slice A0_0 l0_0.length c0_0, .slice (some ad230) l0_1.length c0_1] 50 (0, 0)) (by (with_reducible repeat (first | refine blk_drewN ?_ _ | refine blk_drew ?_ | refine blk_alloc ?_ _)); exact BK226.out)) : gb226 ≠ gb231)); have n7_ := Aside0.mk ((by rw [hg]; exact Nat.ne_of_gt (blk_lt (g := gb226) (o := .cells #[.slice A0_0 l0_0.length c0_0, .slice (some ad230) l0_1.length c0_1] 50 (0, 0)) (by (with_reducible repeat (first | refine blk_drewN ?_ _ | refine blk_drew ?_ | refine blk_alloc ?_ _)); exact BK226.out)) : gb231 ≠ gb226)); clear HO_3; clear BK226; clear HB; have HO_3 := n0_; have BK226 := n1_; have HB := n2_; have BK231 := n3_; have GW231 := n4_; have GE231 := n5_; have NB226_231 := n6_; have NB231_226 := n7_; clear n0_ n1_ n2_ n3_ n4_ n5_ n6_ n7_; clear hb hbox hg; have hnb12 := NB231_226.out; have hnc12 := NB226_231.out; have hcz13_0 : w11.cell? ⟨gb231, 0, none⟩ = some (.int .i64 0) := (blk_cell BK231.out 0).trans rfl; have hcz13_1 : w11.cell? ⟨gb231, 1, none⟩ = some (.slice none 0 0) := (blk_cell BK231.out 1).trans rfl; have hfz13_0 := blk_frozen BK231.out 0; have hfz13_1 := blk_frozen BK231.out 1) | ((with_reducible refine gate_store (t := 116) (p := 5) rfl ?_); refine store_event (t := 116) (p := 5) (v := ?vo_w14) (w1 := ((w11.setCell ⟨gb231, 0, none⟩ (.int .i64 ((rd_T116 l0_1 x12_1).f0))).setCell ⟨gb231, 1, none⟩ (.slice A230_1 ((rd_T116 l0_1 x12_1).f1).length c230_1))) ?hg ?ho ?hn ?hr ?_; (case ho => rfl); (case hg => rfl); (case hn => rfl); (case hr => first | (go_simp; done) | (go_simp; rfl)); intro w14 hw; have n0_ : Aside0 (Kd.R (Kd.int .u8) 5 w14 w.heap.size (fun _ => True) u3 x3_1) := ⟨(by rw [hw]; exact (by (with_reducible repeat (first | apply Kd.R_alloc | apply Kd.R_drewN | apply Kd.R_drew)); exact Kd.R_mono (Kd.R_far (p := ⟨gb231, 1, none⟩) (Kd.R_far (p := ⟨gb231, 0, none⟩) (Kd.R_types HO_3.out BK231.out (by decide)) (fun _ hk => hk.2) (.int .i64 ((rd_T116 l0_1 x12_1).f0))) (fun _ hk => hk.2) (.slice A230_1 ((rd_T116 l0_1 x12_1).f1).length c230_1)) (fun _ hk => trivial)))⟩; have n1_ : Aside0 (w14.heap[gb226]? = some (.cells #[.slice A0_0 l0_0.length c0_0, .slice (some ad230) l0_1.length c0_1] 50 (0, 0))) := ⟨(by rw [hw]; exact (by (with_reducible repeat (first | refine blk_drewN ?_ _ | refine blk_drew ?_ | refine blk_alloc ?_ _)); refine blk_far ?_ NB226_231.out _; (with_reducible repeat (first | refine blk_drewN ?_ _ | refine blk_drew ?_ | refine blk_alloc ?_ _)); refine blk_far ?_ NB226_231.out _; (with_reducible repeat (first | refine blk_drewN ?_ _ | refine blk_drew ?_ | refine blk_alloc ?_ _)); exact BK226.out))⟩; have n2_ : Aside0 (w14.heap[gb231]? = some (.cells #[.int .i64 ((rd_T116 l0_1 x12_1).f0), .slice A230_1 ((rd_T116 l0_1 x12_1).f1).length c230_1] 116 (0, 0))) := ⟨(by rw [hw]; exact (by (with_reducible repeat (first | refine blk_drewN ?_ _ | refine blk_drew ?_ | refine blk_alloc ?_ _)); refine blk_put (cs := #[.int .i64 ((rd_T116 l0_1 x12_1).f0), .slice none 0 0]) ?_ 1 _ rfl; (with_reducible repeat (first | refine blk_drewN ?_ _ | refine blk_drew ?_ | refine blk_alloc ?_ _)); refine blk_put (cs := #[.int .i64 0, .slice none 0 0]) ?_ 0 _ rfl; (with_reducible repeat (first | refine blk_drewN ?_ _ | refine blk_drew ?_ | refine blk_alloc ?_ _)); exact BK231.out))⟩; have n3_ : Aside0 (Below w.heap.size w w14) := ⟨(by rw [hw]; exact (by repeat (first | (with_reducible first | exact HB.out | apply below_alloc | apply pw_below_drewN | apply below_drew1 | refine below_set ?_ GE226.out | refine below_set ?_ GE231.out) | exact HB.out)))⟩; clear hw; clear HO_3; clear BK226; clear BK231; clear HB; have HO_3 := n0_; have BK226 := n1_; have BK231 := n2_; have HB := n3_; clear n0_ n1_ n2_ n3_; have hcz15_0 : w14.cell? ⟨gb231, 0, none⟩ = some (.int .i64 ((rd_T116 l0_1 x12_1).f0)) := (blk_cell BK231.out 0).trans rfl; have hcz15_1 : w14.cell? ⟨gb231, 1, none⟩ = some (.slice A230_1 ((rd_T116 l0_1 x12_1).f1).length c230_1) := (blk_cell BK231.out 1).trans rfl; have hfz15_0 := blk_frozen BK231.out 0; have hfz15_1 := blk_frozen BK231.out 1; obtain ⟨Ao16, co16, eo16⟩ := Kd.R_slice HO_3.out; subst eo16) | ((with_reducible refine gate_callee (f := 103) rfl ?_); refine goesL_ (some 18) rfl rfl Try.func103 (by kernel_rfl) rfl #[.slice Ao16 x3_1.length co16, .agg #[.int .i64 ((rd_T116 l0_1 x12_1).f0), .slice A230_1 ((rd_T116 l0_1 x12_1).f1).length c230_1]] rfl (by (try simp only [List.map_toArray, List.map_cons, List.map_nil]); first | done | rfl | (simp only [List.length_drop, List.length_take]; rfl)) ?_; (with_reducible refine (impl_put.calls (fun k_ => some k_ = (.slice Ao16 x3_1.length co16 : Value).ownBlock) (.slice Ao16 x3_1.length co16) x3_1 ((rd_T116 l0_1 x12_1).f0) _ _ ((rd_T116 l0_1 x12_1).f1) t232 w _ ?side1 ?side2 ?side3 ?side4 A10.out).mono ?_); (case side1 => repeat (first | (with_reducible first | exact HB.out | apply below_alloc | apply pw_below_drewN | apply below_drew1 | refine below_set ?_ GE226.out | refine below_set ?_ GE231.out) | exact HB.out)); (case side2 => exact Kd.R_tight rfl HO_3.out); (case side3 => exact Kd.C_kept_came (Kd.heap_int .u8) HR230_1.out (by repeat (first | (with_reducible first | exact HB.out | apply below_alloc | apply pw_below_drewN | apply below_drew1 | refine below_set ?_ GE226.out | refine below_set ?_ GE231.out) | exact HB.out)) (fun k_ hs_ => (fun e_ => Kd.R_base HO_3.out k_ e_.symm) hs_)); (case side4 => exact HC230_1.out); rintro e w17 ⟨v233, rfl, ho0, hb, hkp⟩; refine ⟨_, rfl, ?_⟩; have n0_ := Aside0.mk (blk_kept (by (with_reducible repeat (first | refine blk_drewN ?_ _ | refine blk_drew ?_ | refine blk_alloc ?_ _)); exact BK226.out) hkp (fun hs_ => (fun e_ => (Kd.R_ne HO_3.out BK226.out (by decide)) e_) hs_)); have n1_ := Aside0.mk (blk_kept (by (with_reducible repeat (first | refine blk_drewN ?_ _ | refine blk_drew ?_ | refine blk_alloc ?_ _)); exact BK231.out) hkp (fun hs_ => (fun e_ => (Kd.R_ne HO_3.out BK231.out (by decide)) e_) hs_)); have n2_ := Aside0.mk (Kd.R_mono (ok' := fun k_ => True) ho0 (fun k_ hk_ => trivial)); have n3_ := Aside0.mk (hb); clear BK226; clear BK231; clear HB; clear HO_3; have BK226 := n0_; have BK231 := n1_; have HO234 := n2_; have HB := n3_; clear n0_ n1_ n2_ n3_; (try clear hb); (try clear hkp); (try clear ho0)))
            go_roundg k1
            case measure => have := HK1.out; omega
            case rel => exact ⟨(t232), (wrap64 (x12_1 + 1)), (by first | rfl | (simp; done) | (simp [*]; done)), H', ⟨by have := HK1.out; omega⟩, ⟨by (with_reducible repeat (first | apply Kd.R_alloc | apply Kd.R_drewN | apply Kd.R_drew)); exact HO234.out⟩, ⟨by (with_reducible repeat (first | refine blk_drewN ?_ _ | refine blk_drew ?_ | refine blk_alloc ?_ _)); exact BK226.out⟩, ⟨by repeat (first | (with_reducible first | exact HB.out | apply below_alloc | apply pw_below_drewN | apply below_drew1 | refine below_set ?_ GE226.out | refine below_set ?_ GE231.out) | exact HB.out)⟩⟩
          · rw [if_neg c9] at H
            exact absurd H (by simp)
        · rw [if_neg c8] at H
          exact absurd H (by simp)
      · rw [if_neg c7] at H
        have c7b0 : decide (x12_1 < (l0_1.length : Int)) = false := decide_eq_false c7
        clear c7
        obtain rfl := Option.some.inj H
        go_wp2
        go_ret
        exact ⟨_, by first | rfl | (simp [errW_none, errW_some] <;> rfl) | (simp [*, errW_none, errW_some] <;> rfl), by (with_reducible repeat (first | apply Kd.R_alloc | apply Kd.R_drewN | apply Kd.R_drew)); exact HO_3.out, by repeat (first | (with_reducible first | exact HB.out | apply below_alloc | apply pw_below_drewN | apply below_drew1 | refine below_set ?_ GE226.out) | exact HB.out)⟩

/-! ### impl_bigOf: function 106 -/
def impl_bigOf.l0 : Nat → Int → List Int → Int → Int → Option (Int)
  | 0, _, _, _, _ => none
  | k + 1, x3, x6, x7, x8 => if x8 < x7 then (if 0 ≤ x8 then (if x8 < (x6.length : Int) then (impl_bigOf.l0 k (Go.bits .or .i64 (wrap64 (x3 * 256)) (wrap64 (rd x6 x8))) x6 x7 (wrap64 (x8 + 1))) else (none)) else (none)) else (some x3)
def impl_bigOf.f (k : Nat) (l0 : List Int) : Option (Int) := impl_bigOf.l0 k 0 l0 (l0.length : Int) 0
theorem impl_bigOf.mono_l : ∀ k, (∀ y0 y1 y2 y3, LeO (impl_bigOf.l0 k y0 y1 y2 y3) (impl_bigOf.l0 (k + 1) y0 y1 y2 y3))
  | 0 => fun _ _ _ _ r h => by simp [impl_bigOf.l0] at h
  | k + 1 => by
    have ih0 := impl_bigOf.mono_l k
    · intro y0 y1 y2 y3
      unfold impl_bigOf.l0
      repeat' first
      | (with_reducible exact ih0 _ _ _ _)
      | (with_reducible exact LeO.refl _)
      | (with_reducible exact LeO.none _)
      | (with_reducible refine LeO.ite ?_ ?_)
      | (with_reducible refine LeO.bind ?_ (fun _ => ?_))
      | exact ih0 _ _ _ _
      | exact LeO.none _
      | refine LeO.ite ?_ ?_
      | refine LeO.bind ?_ (fun _ => ?_)
theorem impl_bigOf.mono : ∀ a0 k, LeO (impl_bigOf.f k a0) (impl_bigOf.f (k + 1) a0) := by
  intro a0 k
  have ih0 := impl_bigOf.mono_l k
  unfold impl_bigOf.f
  repeat' first
      | (with_reducible exact ih0 _ _ _ _)
      | (with_reducible exact LeO.refl _)
      | (with_reducible exact LeO.none _)
      | (with_reducible refine LeO.ite ?_ ?_)
      | (with_reducible refine LeO.bind ?_ (fun _ => ?_))
      | exact ih0 _ _ _ _
      | exact LeO.none _
      | refine LeO.ite ?_ ?_
      | refine LeO.bind ?_ (fun _ => ?_)
set_option maxHeartbeats 8000000 in
set_option maxRecDepth 100000 in
theorem impl_bigOf.calls (k : Nat) (A0 : Option Addr) (c0 : Nat) (l0 : List Int) (r : Int) (w : World) (hr0 : Kd.C (Kd.int .u8) w A0 l0.length l0) (hc0 : l0.length ≤ c0) (h : impl_bigOf.f k l0 = some r) :
    Calls Try.prog 106 #[.slice A0 l0.length c0] w fun e w' => e = .returned (.int .i64 r) ∧ Drawn0 w w' := by
  have HR0 := Aside0.mk hr0
  have HC0 := Aside0.mk hc0
  clear hr0 hc0
  have H : (impl_bigOf.l0 k 0 l0 (l0.length : Int) 0) = some r := h
  clear h
  have H' := Aside0.mk H
  clear H
  go_enter Try.func106, Try.ntmps106
  go_wp2
  go_loopg [3, 8] k (fun kq v3 v8 w' => ∃ (x3_1 : Int) (x8_1 : Int), v3 = .int .i64 x3_1 ∧ v8 = .int .i64 x8_1 ∧ Aside0 (impl_bigOf.l0 kq x3_1 l0 (l0.length : Int) x8_1 = some r) ∧ Aside0 (kq ≤ k) ∧ Drawn0 w w')
  case atStart => exact ⟨(0), (0), (by first | rfl | (simp; done) | (simp [*]; done)), (by first | rfl | (simp; done) | (simp [*]; done)), H', ⟨Nat.le_refl _⟩, by repeat (first | exact Drawn0.refl _ | apply Drawn0.step)⟩
  case round =>
    clear H'
    try clear c1
    obtain ⟨x3_1, x8_1, rfl, rfl, HA, HK1, ⟨m1, rfl⟩⟩ := hrel
    cases gk with
    | zero => exact absurd HA.out (by simp [impl_bigOf.l0])
    | succ k1 =>
      have H := HA.out
      clear HA
      simp only [impl_bigOf.l0] at H
      by_cases c2 : x8_1 < (l0.length : Int)
      · rw [if_pos c2] at H
        have c2b0 : decide (x8_1 < (l0.length : Int)) = true := decide_eq_true c2
        clear c2
        by_cases c3 : 0 ≤ x8_1
        · rw [if_pos c3] at H
          have c3b0 : decide (0 ≤ x8_1) = true := decide_eq_true c3
          clear c3
          by_cases c4 : x8_1 < (l0.length : Int)
          · rw [if_pos c4] at H
            have c4b0 : decide (x8_1 < (l0.length : Int)) = true := decide_eq_true c4
            clear c4
            have H' := Aside0.mk H
            clear H
            have p235 : 0 ≤ (x8_1 : Int) := of_decide_eq_true (by first | (with_reducible assumption) | assumption)
            have q235 : x8_1 < (l0.length : Int) := of_decide_eq_true (by first | (with_reducible assumption) | assumption)
            obtain ⟨ad235, e235, hx235_0⟩ := Kd.at_int HR0.out x8_1 p235 q235
            cases e235
            replace p235 := eq_true p235
            replace q235 := eq_true q235
            go_wp2
            go_roundg k1
            case measure => have := HK1.out; omega
            case rel => exact ⟨(Go.bits .or .i64 (wrap64 (x3_1 * 256)) (wrap64 (rd l0 x8_1))), (wrap64 (x8_1 + 1)), (by first | rfl | (simp; done) | (simp [*]; done)), (by first | rfl | (simp; done) | (simp [*]; done)), H', ⟨by have := HK1.out; omega⟩, by repeat (first | exact Drawn0.refl _ | apply Drawn0.step)⟩
          · rw [if_neg c4] at H
            exact absurd H (by simp)
        · rw [if_neg c3] at H
          exact absurd H (by simp)
      · rw [if_neg c2] at H
        have c2b0 : decide (x8_1 < (l0.length : Int)) = false := decide_eq_false c2
        clear c2
        obtain rfl := Option.some.inj H
        go_wp2
        go_ret
        exact ⟨by first | rfl | (simp; done) | (simp [*]; done), by repeat (first | exact Drawn0.refl _ | apply Drawn0.step)⟩

/-! ### impl_crc: function 107 -/
mutual
def impl_crc.l0 : Nat → Int → List Int → Int → Int → Option (Int)
  | 0, _, _, _, _ => none
  | k + 1, x3, x7, x8, x9 => if x9 < x8 then (if 0 ≤ x9 then (if x9 < (x7.length : Int) then (impl_crc.l1 k (Go.bits .xor .u32 x3 ((rd x7 x9) % 4294967296)) x7 x8 x9 0) else (none)) else (none)) else (some (wrap64 (Go.bits .xor .u32 4294967295 x3)))
def impl_crc.l1 : Nat → Int → List Int → Int → Int → Int → Option (Int)
  | 0, _, _, _, _, _ => none
  | k + 1, x3, x7, x8, x9, x17 => if x17 < 8 then (if (Go.bits .and .u32 x3 1) = 1 then (impl_crc.l1 k (Go.bits .xor .u32 (x3 / 2) 3988292384) x7 x8 x9 (wrap64 (x17 + 1))) else (impl_crc.l1 k (x3 / 2) x7 x8 x9 (wrap64 (x17 + 1)))) else (impl_crc.l0 k x3 x7 x8 (wrap64 (x9 + 1)))
end
def impl_crc.f (k : Nat) (l0 : List Int) : Option (Int) := impl_crc.l0 k 4294967295 l0 (l0.length : Int) 0
theorem impl_crc.mono_l : ∀ k, (∀ y0 y1 y2 y3, LeO (impl_crc.l0 k y0 y1 y2 y3) (impl_crc.l0 (k + 1) y0 y1 y2 y3)) ∧ (∀ y0 y1 y2 y3 y4, LeO (impl_crc.l1 k y0 y1 y2 y3 y4) (impl_crc.l1 (k + 1) y0 y1 y2 y3 y4))
  | 0 => ⟨fun _ _ _ _ r h => by simp [impl_crc.l0] at h, fun _ _ _ _ _ r h => by simp [impl_crc.l1] at h⟩
  | k + 1 => by
    obtain ⟨ih0, ih1⟩ := impl_crc.mono_l k
    refine ⟨?_, ?_⟩
    · intro y0 y1 y2 y3
      unfold impl_crc.l0
      repeat' first
      | (with_reducible exact ih0 _ _ _ _)
      | (with_reducible exact ih1 _ _ _ _ _)
      | (with_reducible exact LeO.refl _)
      | (with_reducible exact LeO.none _)
      | (with_reducible refine LeO.ite ?_ ?_)
      | (with_reducible refine LeO.bind ?_ (fun _ => ?_))
      | exact ih0 _ _ _ _
      | exact ih1 _ _ _ _ _
      | exact LeO.none _
      | refine LeO.ite ?_ ?_
      | refine LeO.bind ?_ (fun _ => ?_)
    · intro y0 y1 y2 y3 y4
      unfold impl_crc.l1
      repeat' first
      | (with_reducible exact ih0 _ _ _ _)
      | (with_reducible exact ih1 _ _ _ _ _)
      | (with_reducible exact LeO.refl _)
      | (with_reducible exact LeO.none _)
      | (with_reducible refine LeO.ite ?_ ?_)
      | (with_reducible refine LeO.bind ?_ (fun _ => ?_))
      | exact ih0 _ _ _ _
      | exact ih1 _ _ _ _ _
      | exact LeO.none _
      | refine LeO.ite ?_ ?_
      | refine LeO.bind ?_ (fun _ => ?_)
theorem impl_crc.mono : ∀ a0 k, LeO (impl_crc.f k a0) (impl_crc.f (k + 1) a0) := by
  intro a0 k
  obtain ⟨ih0, ih1⟩ := impl_crc.mono_l k
  unfold impl_crc.f
  repeat' first
      | (with_reducible exact ih0 _ _ _ _)
      | (with_reducible exact ih1 _ _ _ _ _)
      | (with_reducible exact LeO.refl _)
      | (with_reducible exact LeO.none _)
      | (with_reducible refine LeO.ite ?_ ?_)
      | (with_reducible refine LeO.bind ?_ (fun _ => ?_))
      | exact ih0 _ _ _ _
      | exact ih1 _ _ _ _ _
      | exact LeO.none _
      | refine LeO.ite ?_ ?_
      | refine LeO.bind ?_ (fun _ => ?_)
set_option maxHeartbeats 8000000 in
set_option maxRecDepth 100000 in
theorem impl_crc.calls (k : Nat) (A0 : Option Addr) (c0 : Nat) (l0 : List Int) (r : Int) (w : World) (hr0 : Kd.C (Kd.int .u8) w A0 l0.length l0) (hc0 : l0.length ≤ c0) (h : impl_crc.f k l0 = some r) :
    Calls Try.prog 107 #[.slice A0 l0.length c0] w fun e w' => e = .returned (.int .i64 r) ∧ Drawn0 w w' := by
  have HR0 := Aside0.mk hr0
  have HC0 := Aside0.mk hc0
  clear hr0 hc0
  have H : (impl_crc.l0 k 4294967295 l0 (l0.length : Int) 0) = some r := h
  clear h
  have H' := Aside0.mk H
  clear H
  go_enter Try.func107, Try.ntmps107
  go_wp2
  go_loopg [3, 9] k (fun kq v3 v9 w' => ∃ (x3_1 : Int) (x9_1 : Int), v3 = .int .u32 x3_1 ∧ v9 = .int .i64 x9_1 ∧ Aside0 (impl_crc.l0 kq x3_1 l0 (l0.length : Int) x9_1 = some r) ∧ Aside0 (kq ≤ k) ∧ Drawn0 w w')
  case atStart => exact ⟨(4294967295), (0), (by first | rfl | (simp; done) | (simp [*]; done)), (by first | rfl | (simp; done) | (simp [*]; done)), H', ⟨Nat.le_refl _⟩, by repeat (first | exact Drawn0.refl _ | apply Drawn0.step)⟩
  case round =>
    clear H'
    try clear c1
    obtain ⟨x3_1, x9_1, rfl, rfl, HA, HK1, ⟨m1, rfl⟩⟩ := hrel
    cases gk with
    | zero => exact absurd HA.out (by simp [impl_crc.l0])
    | succ k1 =>
      have H := HA.out
      clear HA
      simp only [impl_crc.l0] at H
      by_cases c2 : x9_1 < (l0.length : Int)
      · rw [if_pos c2] at H
        have c2b0 : decide (x9_1 < (l0.length : Int)) = true := decide_eq_true c2
        clear c2
        by_cases c3 : 0 ≤ x9_1
        · rw [if_pos c3] at H
          have c3b0 : decide (0 ≤ x9_1) = true := decide_eq_true c3
          clear c3
          by_cases c4 : x9_1 < (l0.length : Int)
          · rw [if_pos c4] at H
            have c4b0 : decide (x9_1 < (l0.length : Int)) = true := decide_eq_true c4
            clear c4
            have H' := Aside0.mk H
            clear H
            have p236 : 0 ≤ (x9_1 : Int) := of_decide_eq_true (by first | (with_reducible assumption) | assumption)
            have q236 : x9_1 < (l0.length : Int) := of_decide_eq_true (by first | (with_reducible assumption) | assumption)
            obtain ⟨ad236, e236, hx236_0⟩ := Kd.at_int HR0.out x9_1 p236 q236
            cases e236
            replace p236 := eq_true p236
            replace q236 := eq_true q236
            go_wp2
            go_loopg [3, 17] k1 (fun kq v3 v17 w' => ∃ (x3_2 : Int) (x17_2 : Int), v3 = .int .u32 x3_2 ∧ v17 = .int .i64 x17_2 ∧ Aside0 (impl_crc.l1 kq x3_2 l0 (l0.length : Int) x9_1 x17_2 = some r) ∧ Aside0 (kq ≤ k1) ∧ Drawn0 w w')
            case atStart => exact ⟨(Go.bits .xor .u32 x3_1 ((rd l0 x9_1) % 4294967296)), (0), (by first | rfl | (simp; done) | (simp [*]; done)), (by first | rfl | (simp; done) | (simp [*]; done)), H', ⟨Nat.le_refl _⟩, by repeat (first | exact Drawn0.refl _ | apply Drawn0.step)⟩
            case round =>
              clear H'
              try clear c1
              try clear c2
              try clear c2b0
              try clear p2
              try clear q2
              try clear hx2
              try clear c3
              try clear c3b0
              try clear c4
              try clear c4b0
              try clear hx236_0
              try clear p236
              try clear q236
              obtain ⟨x3_2, x17_2, rfl, rfl, HA, HK2, ⟨m2, rfl⟩⟩ := hrel
              cases gk with
              | zero => exact absurd HA.out (by simp [impl_crc.l1])
              | succ k2 =>
                have H := HA.out
                clear HA
                simp only [impl_crc.l1] at H
                by_cases c5 : x17_2 < 8
                · rw [if_pos c5] at H
                  have c5b0 : decide (x17_2 < 8) = true := decide_eq_true c5
                  clear c5
                  by_cases c6 : (Go.bits .and .u32 x3_2 1) = 1
                  · rw [if_pos c6] at H
                    have c6b0 : ((Go.bits .and .u32 x3_2 1) == 1) = true := beq_iff_eq.mpr c6
                    have c6b1 : ((Go.bits .and .u32 x3_2 1) != 1) = false := bne_eq_false_iff_eq.mpr c6
                    clear c6
                    have H' := Aside0.mk H
                    clear H
                    go_wp2
                    go_roundg k2
                    case measure => have := HK1.out; have := HK2.out; omega
                    case rel => exact ⟨(Go.bits .xor .u32 (x3_2 / 2) 3988292384), (wrap64 (x17_2 + 1)), (by first | rfl | (simp; done) | (simp [*]; done)), (by first | rfl | (simp; done) | (simp [*]; done)), H', ⟨by have := HK1.out; have := HK2.out; omega⟩, by repeat (first | exact Drawn0.refl _ | apply Drawn0.step)⟩
                  · rw [if_neg c6] at H
                    have c6b0 : ((Go.bits .and .u32 x3_2 1) == 1) = false := beq_eq_false_iff_ne.mpr c6
                    have c6b1 : ((Go.bits .and .u32 x3_2 1) != 1) = true := bne_iff_ne.mpr c6
                    have H' := Aside0.mk H
                    clear H
                    go_wp2
                    go_roundg k2
                    case measure => have := HK1.out; have := HK2.out; omega
                    case rel => exact ⟨(x3_2 / 2), (wrap64 (x17_2 + 1)), (by first | rfl | (simp; done) | (simp [*]; done)), (by first | rfl | (simp; done) | (simp [*]; done)), H', ⟨by have := HK1.out; have := HK2.out; omega⟩, by repeat (first | exact Drawn0.refl _ | apply Drawn0.step)⟩
                · rw [if_neg c5] at H
                  have c5b0 : decide (x17_2 < 8) = false := decide_eq_false c5
                  clear c5
                  have H' := Aside0.mk H
                  clear H
                  go_wp2
                  go_roundg k2
                  case measure => have := HK1.out; have := HK2.out; omega
                  case rel => exact ⟨(x3_2), (wrap64 (x9_1 + 1)), (by first | rfl | (simp; done) | (simp [*]; done)), (by first | rfl | (simp; done) | (simp [*]; done)), H', ⟨by have := HK1.out; have := HK2.out; omega⟩, by repeat (first | exact Drawn0.refl _ | apply Drawn0.step)⟩
          · rw [if_neg c4] at H
            exact absurd H (by simp)
        · rw [if_neg c3] at H
          exact absurd H (by simp)
      · rw [if_neg c2] at H
        have c2b0 : decide (x9_1 < (l0.length : Int)) = false := decide_eq_false c2
        clear c2
        obtain rfl := Option.some.inj H
        go_wp2
        go_ret
        exact ⟨by first | rfl | (simp; done) | (simp [*]; done), by repeat (first | exact Drawn0.refl _ | apply Drawn0.step)⟩

end Go.Proofs.Ythojdfndgfpkpaa.XL
