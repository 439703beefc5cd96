-- Walks of the functions that the law reaches. Joined by a program of this session. Lean checks it.
import Derived.Test.YthacgkafdjnppaaXUm0
namespace Go.Proofs.Ythacgkafdjnppaa.XU
open Go.Proofs.Ythacgkafdjnppaa.OpenS Go.Proofs.Ythacgkafdjnppaa.Open Go.Proofs.Ythacgkafdjnppaa.OpenWin Go.Proofs.Ythacgkafdjnppaa.OpenCopy Go.Proofs.Ythacgkafdjnppaa.OpenStr Go.Proofs.Ythacgkafdjnppaa.OpenRow Go.Proofs.Ythacgkafdjnppaa.OpenFlat Go.Proofs.Ythacgkafdjnppaa.OpenOrd
open Go.RowKit Go.Proofs.YthacgkafdjnppaaW.PrintWords Go.Proofs.YthacgkafdjnppaaW.PrintLast Go.Proofs.YthacgkafdjnppaaW.PrintMore
attribute [local go_sem] max2_int min2_int max_two min_two max_three min_three max_four min_four   -- for this text's walks alone
set_option linter.unusedVariables false
set_option linter.unusedSimpArgs false
def spec_l01Put.f (l0 : List Int) (a1_0 : Int) (l1_1 : List Int) : Option (List Int) := if 0 ≤ a1_0 ∧ a1_0 ≤ 127 ∧ l1_1.length = 32 ∧ l0.length ≤ 1048576 ∧ l0.length % 32 = 0 then some (OpenCopy.putL l0 a1_0.toNat l1_1) else none
theorem spec_l01Put.facts (P0_ : Nat → Prop) (w0 w W : World) (v : Value) (L S : List Int) (i : Nat) (A1 : Option Addr) (c1 : Nat) (hS : S.length = 32) (hL : 32 * (i + 1) ≤ L.length) (hi : i ≤ 127)
    (hR : Kd.R (Kd.int .u8) 5 W w0.heap.size (fun k => P0_ k ∨ w.heap.size ≤ k) v L) (hB : Below w0.heap.size w0 W) (hK : Kept w W (fun k => P0_ k)) (hC : Kd.C (Kd.int .u8) W A1 S.length S) (hz : w0.heap.size ≤ w.heap.size) :
    ∃ (g cap : Nat) (ad : Addr) (cur : Array Value), v = .slice (some ⟨g, 0, none⟩) L.length cap ∧ A1 = some ad ∧ W.heap[g]? = some (.cells cur 5 (0, 0)) ∧ 32 * i + (nums .u8 S).length ≤ cur.size ∧ (∀ j u, (nums .u8 S)[j]? = some u → W.cell? (ad.add j) = some u) ∧
      (∀ W', (Instr.slice 22 (.slice (some ⟨g, 0, none⟩) L.length cap) (some (.int .i64 ((32 * i : Nat) : Int))) none none).run Try.prog W' = .ok (.slice (some ⟨g, 32 * i, none⟩) (L.length - 32 * i) (cap - 32 * i)) W') ∧
      Aside0 (Kd.R (Kd.int .u8) 5 (W.setRow g (cur.toList.take (32 * i) ++ (nums .u8 S ++ cur.toList.drop (32 * i + (nums .u8 S).length))).toArray) w0.heap.size (fun k => P0_ k ∨ w.heap.size ≤ k) v (OpenCopy.spliced L S (32 * i)) ∧
        Below w0.heap.size w0 (W.setRow g (cur.toList.take (32 * i) ++ (nums .u8 S ++ cur.toList.drop (32 * i + (nums .u8 S).length))).toArray) ∧ Kept w (W.setRow g (cur.toList.take (32 * i) ++ (nums .u8 S ++ cur.toList.drop (32 * i + (nums .u8 S).length))).toArray) (fun k => P0_ k)) := by
  obtain ⟨g, cap, rfl, hg1, hg2, _⟩ := Kd.R_form hR (by omega)
  obtain ⟨cur, q1, q2, q3, q4, q5, q6, q7, q8⟩ := OpenCopy.R_cur hR
  obtain ⟨ad, rfl, hcell⟩ := hC.2.2 (by omega)
  obtain ⟨i0, hi0, _, hz1, _⟩ := info_parts info5
  have hnl : (nums .u8 S).length = 32 := by simp [nums, hS]
  refine ⟨g, cap, ad, cur, rfl, rfl, q1, by omega, fun j u hj => ?_, fun W' => OpenCopy.cut_at 22 5 .i64 Try.underlying22 hi0 hz1 g L.length cap (32 * i) (by omega) (by omega) W', ⟨?_, ?_, ?_⟩⟩
  · have hjl : j < S.length := by have := (List.getElem?_eq_some_iff.1 hj).1; omega
    obtain ⟨c, hc1, hc2, hc3⟩ := hcell j _ (List.getElem?_eq_getElem hjl)
    have hc2' : c = [.int .u8 S[j]] := hc2
    have := hc3 0 (.int .u8 S[j]) (by rw [hc2']; rfl)
    rw [show (Kd.int .u8).sz = 1 from rfl, Nat.mul_one, Nat.add_zero] at this
    rw [this]
    rw [← hj]
    simp [nums, hjl]
  · exact OpenCopy.R_copy q1 rfl q3 q4 q5 q6 q7 q8 (by omega)
  · exact below_setRow hB q7 _
  · exact OpenCopy.setRow_kept hK _ q8
theorem spec_l01Put.ok {w W : World} {v : Value} {L : List Int} (h : Kd.R (Kd.int .u8) 5 W w.heap.size (fun _ => True) v L) : Kd.R (Kd.int .u8) 5 W w.heap.size (fun k => False ∨ w.heap.size ≤ k) v L := by
  exact ⟨fun k hk => .inr (Kd.R_base h k hk), h.2⟩
theorem spec_l01Put.kept {w W : World} (h : Below w.heap.size w W) : Kept w W (fun _ => False) := ⟨below_size h, fun i hi _ => by obtain ⟨_, _, _, _, q⟩ := h; exact q i hi⟩
set_option maxHeartbeats 8000000 in
set_option maxRecDepth 100000 in
theorem spec_l01Put.calls (A0 : Option Addr) (c0 : Nat) (l0 : List Int) (a1_0 : Int) (A1_1 : Option Addr) (c1_1 : Nat) (l1_1 : List Int) (r : List Int) (w : World) (hr0 : Kd.C (Kd.int .u8) w A0 l0.length l0) (hc0 : l0.length ≤ c0) (hr1_1 : Kd.C (Kd.int .u8) w A1_1 l1_1.length l1_1) (hc1_1 : l1_1.length ≤ c1_1) (h : spec_l01Put.f l0 a1_0 l1_1 = some r) :
    Calls Try.prog 45 #[.slice A0 l0.length c0, .agg #[.int .i64 a1_0, .slice A1_1 l1_1.length c1_1]] w fun e w' => ∃ v0_ : Value, e = .returned (v0_) ∧ Kd.R (Kd.int .u8) 5 w' w.heap.size (fun _ => True) v0_ r ∧ Below w.heap.size w w' := by
  have hu := Try.underlying65
  have infoE : (Try.prog.info? 5).map (fun i => (i.zero, i.size, i.bytes)) = some (some (.int .u8 0), 1, 1) := by kernel_rfl
  have INFO := Aside0.mk infoE
  clear infoE
  unfold spec_l01Put.f at h
  have hc : 0 ≤ a1_0 ∧ a1_0 ≤ 127 ∧ l1_1.length = 32 ∧ l0.length ≤ 1048576 ∧ l0.length % 32 = 0 := Decidable.byContradiction fun hs => by rw [if_neg hs] at h; cases h
  rw [if_pos hc] at h
  have hr := Option.some.inj h
  clear h
  obtain ⟨h0, h1, h2, h3, h4⟩ := hc
  obtain ⟨i, rfl⟩ : ∃ i : Nat, a1_0 = (i : Int) := ⟨a1_0.toNat, by omega⟩
  rw [Int.toNat_natCast] at hr
  have h1' : i ≤ 127 := by omega
  obtain ⟨n, hn⟩ : ∃ n, 32 * n = 32 * (i + 1) - l0.length := ⟨(32 * (i + 1) - l0.length) / 32, by omega⟩
  have H4 := Aside0.mk h4
  have HN := Aside0.mk hn
  have H2 := Aside0.mk h2
  have HR0 := Aside0.mk hr0
  have HC0 := Aside0.mk hc0
  have HR1 := Aside0.mk hr1_1
  have HC1 := Aside0.mk hc1_1
  have HB := Aside0.mk (Below.refl w.heap.size w)
  have HRR := Aside0.mk hr
  have Ny := Aside0.mk (show l0 = [] ++ l0 from rfl)
  clear hr h4 hn h2 hr0 hc0 hr1_1 hc1_1
  go_enter Try.func45, Try.ntmps45
  go_wp2_with (first
    | ((with_reducible refine gate_dst (N := 3) rfl ?_); refine box_event ?hg (N := 3) ?hd (cs := #[.int .i64 (i : Int), .slice A1_1 l1_1.length c1_1]) (t := 65) ?hr ?_; (case hd => rfl); (case hg => rfl); (case hr => first | (go_simp; done) | (go_simp; rfl)); intro gb hg w3 hbox hb; have n0_ := Aside0.mk (below_step HB.out hb); have n1_ := Aside0.mk hbox; have n2_ := Aside0.mk ((by rw [hg]; exact Nat.le_refl _) : w.heap.size ≤ gb); clear HB; have HB := n0_; have BK := n1_; have GW := n2_; clear n0_ n1_ n2_; clear hb hbox hg)
    | ((with_reducible refine gate_dst (N := 6) rfl ?_); refine Kd.R_lit (Kd.int .u8) _ 5 ?hg (N := 6) ?hd (xs := ([] : List Int)) (inner := []) (ok := fun _ => True) (okp := fun _ => True) ?hr ?hp (fun _ hk => hk) trivial (Below.refl _ _) (Nat.le_refl _) (by simp) ?_; (case hd => rfl); (case hg => rfl); (case hr => first | (go_simp; done) | (go_simp; rfl)); (case hp => exact (Reps.none _ _)); intro v120 w4 ho5 hb hg_ hnew_; clear hg_ hnew_; have n0_ := Aside0.mk (Kd.R_lower ho5 (below_size HB.out)); have n1_ := Aside0.mk (blk_below (g := gb) (o := .cells #[.int .i64 (i : Int), .slice A1_1 l1_1.length c1_1] 65 (0, 0)) BK.out hb); have n2_ := Aside0.mk (below_step HB.out hb); clear BK; clear HB; have HO121 := n0_; have BK := n1_; have HB := n2_; clear n0_ n1_ n2_; clear hb ho5)
    | ((with_reducible refine gate_builtin (b := .append) (xs := #[.tmp 6, .tmp 7]) rfl ?_); at_builtin; refine Kd.R_append_rows (Kd.int .u8) (w0 := w) w.heap.size rfl (.tmp 6) (.tmp 7) 22 5 (.int .u8 0) 1 rfl Try.underlying22 INFO.out rfl (by decide) (by decide) v120 [] l0 _ _ _ (fun _ => True) (fun _ => False) rfl rfl ?aO ?aR (fun _ _ h => h) (fun _ h => h.elim) ?aF ?aB ?aS ?aL ?_; (case aR => exact (Kd.C_below HR0.out HB.out)); (case aB => exact HB.out); (case aF => exact (fun _ _ => trivial)); (case aO => exact HO121.out); (case aS => exact (below_size HB.out)); (case aL => simp only [List.length_nil, Nat.zero_add]; omega); intro v123 w7 ho hb hg hat; rw [← Ny.out] at ho; have n0_ := Aside0.mk (blk_grown (g := gb) (o := .cells #[.int .i64 (i : Int), .slice A1_1 l1_1.length c1_1] 65 (0, 0)) BK.out hg (Kd.R_ne HO121.out BK.out (by decide))); have n1_ := Aside0.mk hb; have n2_ := Aside0.mk ho; clear BK; clear HB; clear HO121; have BK := n0_; have HB := n1_; have HO124 := n2_; clear n0_ n1_ n2_; clear ho hb hg hat))
  go_loopg [5] n (fun kq v5 w' => ∃ L : List Int, Aside0 (L = l0 ++ List.replicate (32 * (n - kq)) 0) ∧ Aside0 (kq ≤ n) ∧ Aside0 (Kd.R (Kd.int .u8) 5 w' w.heap.size (fun _ => True) v5 L) ∧ Aside0 (w'.heap[gb]? = some (.cells #[.int .i64 (i : Int), .slice A1_1 l1_1.length c1_1] 65 (0, 0))) ∧ Aside0 (Below w.heap.size w w'))
  case atStart => exact ⟨l0, ⟨by simp⟩, ⟨Nat.le_refl _⟩, HO124, BK, HB⟩
  case round =>
    clear HO124 BK HB
    obtain ⟨L, HL, HK, HO, BK, HB⟩ := hrel
    obtain ⟨A, c, rfl⟩ := Kd.R_slice HO.out
    have x0 : wr.cell? ⟨gb, 0, none⟩ = some (.int .i64 (i : Int)) := (blk_cell BK.out 0).trans rfl
    have x1 : wr.cell? ⟨gb, 1, none⟩ = some (.slice A1_1 l1_1.length c1_1) := (blk_cell BK.out 1).trans rfl
    have hll : L.length = l0.length + 32 * (n - gk) := by rw [HL.out]; simp
    cases gk with
    | succ k1 =>
      have c1 : (L.length : Int) < ((i : Int) + 1) * 32 := by have := HK.out; have := HN.out; omega
      have d1 : decide ((L.length : Int) < ((i : Int) + 1) * 32) = true := decide_eq_true c1
      have HLL := Aside0.mk hll
      have C1 := Aside0.mk c1
      clear hll c1
      go_wp2_with (first
        | ((with_reducible refine gate_builtin (b := .append) (xs := #[.tmp 16, .const (.int .i64 32)]) rfl ?_); at_builtin; refine Kd.R_append_zeros (Kd.int .u8) (w0 := w) w.heap.size rfl (.tmp 16) (.const (.int .i64 32)) 22 3 5 (.int .u8 0) 1 rfl Try.underlying22 Try.underlying3 INFO.out rfl (by decide) (by decide) (.slice A L.length c) L 0 32 (fun _ => True) rfl rfl rfl ?aF ?aO (by decide) ?aB ?aS ?aL ?_; (case aO => exact HO.out); (case aB => exact HB.out); (case aF => exact (fun _ _ => trivial)); (case aS => exact (below_size HB.out)); (case aL => have := C1.out; simp only [Int.reduceToNat]; omega); intro v1 w1 ho hb hg hat; have HO2 := Aside0.mk ho; have n0_ := Aside0.mk (blk_grown (g := gb) (o := .cells #[.int .i64 (i : Int), .slice A1_1 l1_1.length c1_1] 65 (0, 0)) BK.out hg (Kd.R_ne HO.out BK.out (by decide))); have n1_ := Aside0.mk hb; clear BK HB; have BK := n0_; have HB := n1_; clear n0_ n1_; clear ho hb hg hat))
      go_roundg k1
      case measure => omega
      case rel =>
        refine ⟨L ++ List.replicate 32 0, ⟨?_⟩, ⟨?_⟩, HO2, BK, HB⟩
        · have h1 := HK.out
          rw [HL.out, List.append_assoc, List.replicate_append_replicate]
          congr 2
          omega
        · have h1 := HK.out; omega
    | zero =>
      have c1 : ¬ (L.length : Int) < ((i : Int) + 1) * 32 := by have := HK.out; have := HN.out; omega
      have d1 : decide ((L.length : Int) < ((i : Int) + 1) * 32) = false := decide_eq_false c1
      have HLL := Aside0.mk (show 32 * (i + 1) ≤ L.length by omega)
      have hrl : spliced L l1_1 (32 * i) = r := by
        rw [← HRR.out]
        show _ = spliced (l0 ++ List.replicate (32 * (i + 1) - l0.length) 0) l1_1 (32 * i)
        rw [← HN.out, HL.out, Nat.sub_zero]
      have HRL := Aside0.mk hrl
      have HX0 := Aside0.mk x0
      have HX1 := Aside0.mk x1
      obtain ⟨g, cap, ad, cur, hv, rfl, f1, f2, f3, f4, HF⟩ := spec_l01Put.facts (fun _ => False) w w wr.drew (.slice A L.length c) L l1_1 i A1_1 c1_1 H2.out HLL.out h1' (spec_l01Put.ok HO.out) (by apply below_drew1; exact HB.out) (spec_l01Put.kept (below_drew1 HB.out)) (Kd.C_below HR1.out (below_drew1 HB.out)) (Nat.le_refl _)
      injection hv with hv1 _ hv2
      subst hv1 hv2
      have F1 := Aside0.mk f1
      have F2 := Aside0.mk f2
      have F3 := Aside0.mk f3
      have F4 := Aside0.mk f4
      clear f1 f2 f3 f4 hrl hll c1 x0 x1
      have x0 := HX0.out
      have x1 := HX1.out
      go_wp2
      have f4 := F4.out
      push_cast at f4
      rw [Int.mul_comm] at f4
      have hwr : IntKind.i64.wrap ((i : Int) * 32) = (i : Int) * 32 := by rw [IntKind.wrap_i64]; omega
      refine wp_region_still_tail 7 (by kernel_rfl) (by kernel_rfl) ?_
      simp only [List.take_succ_cons, List.take_zero, List.drop_succ_cons, List.drop_zero]
      still_step
      still_step
      still_step
      still_step
      refine wpStill_step (fun K hK => ?_)
      go_simp
      refine hK _ ?_
      clear hK K
      still_step
      still_step
      refine wpStill_nil ?_
      refine wpList_copy_own rfl (.tmp 22) (.tmp 24) 22 22 rfl 5 Try.underlying22 (by kernel_rfl) g (32 * i) (L.length - 32 * i) (c - 32 * i) ad l1_1.length c1_1 rfl rfl cur 5 F1.out (nums .u8 l1_1) ?cn F3.out F2.out ?co ?_
      case cn => have h1_ := H2.out; have h2_ := HLL.out; rw [show (nums .u8 l1_1).length = l1_1.length by simp [nums]]; exact (Nat.min_eq_left (by omega)).symm
      case co => intro v hv; simp only [nums, List.mem_map] at hv; obtain ⟨x, _, rfl⟩ := hv; rfl
      obtain ⟨W3, hW3⟩ : ∃ W3, W3 = ((wr.drew).setRow g (cur.toList.take (32 * i) ++ (nums .u8 l1_1 ++ cur.toList.drop (32 * i + (nums .u8 l1_1).length))).toArray) := ⟨_, rfl⟩
      have HF2 := Aside0.mk HF.out
      have e3 : ({ heap := wr.heap, tape := wr.tape, drawn := wr.drawn + 1, os := wr.os, output := wr.output } : World) = wr.drew := rfl
      rw [e3, ← hW3]
      rw [← hW3] at HF2
      have HW3 := Aside0.mk hW3
      clear hW3 HF e3
      go_wp2
      go_ret
      refine ⟨_, rfl, ?_, HF2.out.2.1⟩
      rw [← HRL.out]; exact Kd.R_mono HF2.out.1 (fun _ _ => trivial)
def spec_l01Read.l0 : Nat → List Int → Int → List Int → List (S65) → Option (List Int)
  | 0, _, _, _, _ => none
  | k + 1, x3, x4, x165000, x165001 => if x4 < (x165001.length : Int) then (if 0 ≤ x4 then ((spec_l01Put.f x3 ((rd_T65 x165001 x4).f0) ((rd_T65 x165001 x4).f1)).bind fun t172 => (spec_l01Read.l0 k t172 (wrap64 (x4 + 1)) x165000 x165001)) else (none)) else (some x3)
def spec_l01Read.f (k : Nat) (l0_0 : List Int) (l0_1 : List (S65)) : Option (List Int) := (some (([] : List Int) : List Int)).bind fun y165 => (if y165.length + l0_0.length < 140737488355328 then (spec_l01Read.l0 k (y165 ++ l0_0) 0 l0_0 l0_1) else (none))
theorem spec_l01Read.mono_l : ∀ k, (∀ y0 y1 y2 y3, LeO (spec_l01Read.l0 k y0 y1 y2 y3) (spec_l01Read.l0 (k + 1) y0 y1 y2 y3))
  | 0 => fun _ _ _ _ r h => by simp [spec_l01Read.l0] at h
  | k + 1 => by
    have ih0 := spec_l01Read.mono_l k
    · intro y0 y1 y2 y3
      unfold spec_l01Read.l0
      repeat' first
      | (with_reducible exact ih0 _ _ _ _)
      | (with_reducible exact LeO.refl _)
      | (with_reducible exact LeO.none _)
      | (with_reducible refine LeO.ite ?_ ?_)
      | (with_reducible refine LeO.bind ?_ (fun _ => ?_))
      | exact ih0 _ _ _ _
      | exact LeO.none _
      | refine LeO.ite ?_ ?_
      | refine LeO.bind ?_ (fun _ => ?_)
theorem spec_l01Read.mono : ∀ a0 a1 k, LeO (spec_l01Read.f k a0 a1) (spec_l01Read.f (k + 1) a0 a1) := by
  intro a0 a1 k
  have ih0 := spec_l01Read.mono_l k
  unfold spec_l01Read.f
  repeat' first
      | (with_reducible exact ih0 _ _ _ _)
      | (with_reducible exact LeO.refl _)
      | (with_reducible exact LeO.none _)
      | (with_reducible refine LeO.ite ?_ ?_)
      | (with_reducible refine LeO.bind ?_ (fun _ => ?_))
      | exact ih0 _ _ _ _
      | exact LeO.none _
      | refine LeO.ite ?_ ?_
      | refine LeO.bind ?_ (fun _ => ?_)
set_option maxHeartbeats 8000000 in
set_option maxRecDepth 100000 in
theorem spec_l01Read.calls (k : Nat) (A0_0 : Option Addr) (c0_0 : Nat) (l0_0 : List Int) (A0_1 : Option Addr) (c0_1 : Nat) (l0_1 : List (S65)) (r : List Int) (w : World) (hr0_0 : Kd.C (Kd.int .u8) w A0_0 l0_0.length l0_0) (hc0_0 : l0_0.length ≤ c0_0) (hr0_1 : Kd.C k65 w A0_1 l0_1.length l0_1) (hc0_1 : l0_1.length ≤ c0_1) (h : spec_l01Read.f k l0_0 l0_1 = some r) :
    Calls Try.prog 30 #[.agg #[.slice A0_0 l0_0.length c0_0, .slice A0_1 l0_1.length c0_1]] w fun e w' => ∃ v0_ : Value, e = .returned (v0_) ∧ Kd.R (Kd.int .u8) 5 w' w.heap.size (fun _ => True) v0_ r ∧ Below w.heap.size w w' := by
  have hu32 := Try.underlying32
  have hu65 := Try.underlying65
  have HR0_0 := Aside0.mk hr0_0
  have HC0_0 := Aside0.mk hc0_0
  clear hr0_0 hc0_0
  have HR0_1 := Aside0.mk hr0_1
  have HC0_1 := Aside0.mk hc0_1
  clear hr0_1 hc0_1
  have HB := Aside0.mk (Below.refl w.heap.size w)
  have H : ((some (([] : List Int) : List Int)).bind fun y165 => (if y165.length + l0_0.length < 140737488355328 then (spec_l01Read.l0 k (y165 ++ l0_0) 0 l0_0 l0_1) else (none))) = some r := h
  clear h
  obtain ⟨y165, hy165⟩ : ∃ y_ : List Int, y_ = (([] : List Int)) := ⟨_, rfl⟩
  replace H : (if y165.length + l0_0.length < 140737488355328 then (spec_l01Read.l0 k (y165 ++ l0_0) 0 l0_0 l0_1) else (none)) = some r := by first | (rw [hy165]; with_reducible exact H) | (have H2_ := (Option.bind_some _ _).symm.trans H; rw [hy165]; with_reducible exact H2_) | (have H2_ := (Option.bind_some _ _).symm.trans H; with_reducible exact H2_) | with_reducible exact H | (rw [hy165]; exact H) | exact H
  have Ny165 := Aside0.mk hy165
  clear hy165
  by_cases c2 : y165.length + l0_0.length < 140737488355328
  · rw [if_pos c2] at H
    have LMc2 := Aside0.mk c2
    clear c2
    obtain ⟨y168, hy168⟩ : ∃ y_ : List Int, y_ = (y165 ++ l0_0) := ⟨_, rfl⟩
    replace H : (spec_l01Read.l0 k y168 0 l0_0 l0_1) = some r := by first | (rw [hy168]; with_reducible exact H) | (have H2_ := (Option.bind_some _ _).symm.trans H; rw [hy168]; with_reducible exact H2_) | (have H2_ := (Option.bind_some _ _).symm.trans H; with_reducible exact H2_) | with_reducible exact H | (rw [hy168]; exact H) | exact H
    have Ny168 := Aside0.mk hy168
    clear hy168
    have H' := Aside0.mk H
    clear H
    go_enter Try.func30, Try.ntmps30
    go_wp2_with (first | ((with_reducible refine gate_dst (N := 1) rfl ?_); refine box_event ?hg (N := 1) ?hd (cs := #[.slice A0_0 l0_0.length c0_0, .slice A0_1 l0_1.length c0_1]) (t := 32) ?hr ?_; (case hd => rfl); (case hg => rfl); (case hr => first | (go_simp; done) | (go_simp; rfl)); intro gb164 hg w3 hbox hb; have n0_ := Aside0.mk (below_step (by repeat (first | (with_reducible first | exact HB.out | apply below_alloc | apply pw_below_drewN | apply below_drew1) | exact HB.out)) hb); have n1_ := Aside0.mk (hbox); have n2_ := Aside0.mk ((by rw [hg]; exact (below_size (by repeat (first | (with_reducible first | exact HB.out | apply below_alloc | apply pw_below_drewN | apply below_drew1) | exact HB.out))) : w.heap.size ≤ gb164)); have n3_ := Aside0.mk ((by rw [hg]; exact (below_size (by repeat (first | (with_reducible first | exact HB.out | apply below_alloc | apply pw_below_drewN | apply below_drew1) | exact HB.out))) : w.heap.size ≤ gb164)); clear HB; have HB := n0_; have BK164 := n1_; have GW164 := n2_; have GE164 := n3_; clear n0_ n1_ n2_ n3_; clear hb hbox hg) | ((with_reducible refine gate_dst (N := 5) rfl ?_); refine Kd.R_lit (Kd.int .u8) _ 5 ?hg (N := 5) ?hd (xs := ([] : List Int)) (inner := []) (ok := fun _ => True) (okp := fun _ => True) ?hr ?hp (fun _ hk => hk) trivial (Below.refl _ _) (Nat.le_refl _) (by simp) ?_; (case hd => rfl); (case hg => rfl); (case hr => first | (go_simp; done) | (go_simp; rfl)); (case hp => exact (Reps.none _ _)); intro v166 w4 ho5 hb hg_ hnew_; clear hg_ hnew_; (first | rw [← Ny165.out] at ho5 | (simp only [Int.reduceToNat] at ho5; rw [← Ny165.out] at ho5)); have n0_ := Aside0.mk (Kd.R_lower ho5 (below_size (by repeat (first | (with_reducible first | exact HB.out | apply below_alloc | apply pw_below_drewN | apply below_drew1 | refine below_set ?_ GE164.out) | exact HB.out)))); have n1_ := Aside0.mk (blk_below (g := gb164) (o := .cells #[.slice A0_0 l0_0.length c0_0, .slice A0_1 l0_1.length c0_1] 32 (0, 0)) (by (with_reducible repeat (first | refine blk_drewN ?_ _ | refine blk_drew ?_ | refine blk_alloc ?_ _)); exact BK164.out) hb); have n2_ := Aside0.mk (below_step (by repeat (first | (with_reducible first | exact HB.out | apply below_alloc | apply pw_below_drewN | apply below_drew1 | refine below_set ?_ GE164.out) | exact HB.out)) hb); clear BK164; clear HB; have HO167 := n0_; have BK164 := n1_; have HB := n2_; clear n0_ n1_ n2_; clear hb ho5; have hcz6_0 : w4.cell? ⟨gb164, 0, none⟩ = some (.slice A0_0 l0_0.length c0_0) := (blk_cell BK164.out 0).trans rfl; have hcz6_1 : w4.cell? ⟨gb164, 1, none⟩ = some (.slice A0_1 l0_1.length c0_1) := (blk_cell BK164.out 1).trans rfl; have hfz6_0 := blk_frozen BK164.out 0; have hfz6_1 := blk_frozen BK164.out 1) | ((with_reducible refine gate_builtin (b := .append) (xs := #[.tmp 5, .tmp 7]) rfl ?_); at_builtin; refine Kd.R_append_rows (Kd.int .u8) (w0 := w) w.heap.size rfl (.tmp 5) (.tmp 7) 22 5 (.int .u8 0) 1 rfl Try.underlying22 info5 rfl (by decide) (by omega) v166 y165 l0_0 _ _ _ (fun _ => True) (fun _ => False) rfl rfl ?aO ?aR (fun _ _ h => h) (fun _ h => h.elim) ?aF ?aB ?aS ?aL ?_; (case aR => repeat (first | exact (Kd.C_below HR0_0.out HB.out) | (with_reducible refine Kd.C_alloc ?_ _) | (with_reducible refine Kd.C_drewN ?_ _) | (with_reducible refine Kd.C_drew ?_))); (case aB => exact (by repeat (first | (with_reducible first | exact HB.out | apply below_alloc | apply pw_below_drewN | apply below_drew1 | refine below_set ?_ GE164.out) | exact HB.out))); (case aF => exact (fun _ _ => trivial)); (case aO => exact (by (with_reducible repeat (first | apply Kd.R_alloc | apply Kd.R_drewN | apply Kd.R_drew)); exact HO167.out)); (case aS => exact (below_size (by repeat (first | (with_reducible first | exact HB.out | apply below_alloc | apply pw_below_drewN | apply below_drew1 | refine below_set ?_ GE164.out) | exact HB.out)))); (case aL => have := LMc2.out; omega); intro v169 w7 ho hb hg hat; rw [← Ny168.out] at ho; have n0_ := Aside0.mk (blk_grown (g := gb164) (o := .cells #[.slice A0_0 l0_0.length c0_0, .slice A0_1 l0_1.length c0_1] 32 (0, 0)) (by (with_reducible repeat (first | refine blk_drewN ?_ _ | refine blk_drew ?_ | refine blk_alloc ?_ _)); exact BK164.out) hg (Kd.R_ne HO167.out BK164.out (by decide))); have n1_ := Aside0.mk (hb); have n2_ := Aside0.mk (ho); clear BK164; clear HB; clear HO167; have BK164 := n0_; have HB := n1_; have HO170 := n2_; clear n0_ n1_ n2_; clear ho hb hg hat))
    go_loopg [3, 4] k (fun kq v3 v4 w' => ∃ (x3_1 : List Int) (x4_1 : Int), v4 = .int .i64 x4_1 ∧ Aside0 (spec_l01Read.l0 kq x3_1 x4_1 l0_0 l0_1 = some r) ∧ Aside0 (kq ≤ k) ∧ Aside0 (Kd.R (Kd.int .u8) 5 w' w.heap.size (fun _ => True) v3 x3_1) ∧ Aside0 (w'.heap[gb164]? = some (.cells #[(.slice A0_0 l0_0.length c0_0), (.slice A0_1 l0_1.length c0_1)] 32 (0, 0))) ∧ Aside0 (Below w.heap.size w w'))
    case atStart => exact ⟨(y168), (0), (by first | rfl | (simp; done) | (simp [*]; done)), H', ⟨Nat.le_refl _⟩, ⟨by (with_reducible repeat (first | apply Kd.R_alloc | apply Kd.R_drewN | apply Kd.R_drew)); exact HO170.out⟩, ⟨by (with_reducible repeat (first | refine blk_drewN ?_ _ | refine blk_drew ?_ | refine blk_alloc ?_ _)); exact BK164.out⟩, ⟨by repeat (first | (with_reducible first | exact HB.out | apply below_alloc | apply pw_below_drewN | apply below_drew1 | refine below_set ?_ GE164.out) | exact HB.out)⟩⟩
    case round =>
      clear H'
      try clear c2
      try clear p2
      try clear c3
      try clear hcz6_0
      try clear hcz6_1
      try clear hfz6_0
      try clear hfz6_1
      obtain ⟨x3_1, x4_1, rfl, HA, HK1, HO_3, BK164, HB⟩ := hrel
      cases gk with
      | zero => exact absurd HA.out (by simp [spec_l01Read.l0])
      | succ k1 =>
        have H := HA.out
        clear HA
        simp only [spec_l01Read.l0] at H
        by_cases c8 : x4_1 < (l0_1.length : Int)
        · rw [if_pos c8] at H
          have c8b0 : decide (x4_1 < (l0_1.length : Int)) = true := decide_eq_true c8
          clear c8
          by_cases c9 : 0 ≤ x4_1
          · rw [if_pos c9] at H
            have c9b0 : decide (0 ≤ x4_1) = true := decide_eq_true c9
            clear c9
            replace H := Option.bind_eq_some_iff.mp H
            obtain ⟨t172, A100, H⟩ := H
            replace H : (spec_l01Read.l0 k1 t172 (wrap64 (x4_1 + 1)) l0_0 l0_1) = some r := H
            have A10 := Aside0.mk A100
            clear A100
            have H' := Aside0.mk H
            clear H
            have hcz11_0 : wr.cell? ⟨gb164, 0, none⟩ = some (.slice A0_0 l0_0.length c0_0) := (blk_cell BK164.out 0).trans rfl
            have hcz11_1 : wr.cell? ⟨gb164, 1, none⟩ = some (.slice A0_1 l0_1.length c0_1) := (blk_cell BK164.out 1).trans rfl
            have hfz11_0 := blk_frozen BK164.out 0
            have hfz11_1 := blk_frozen BK164.out 1
            have p171 : 0 ≤ (x4_1 : Int) := of_decide_eq_true (by first | (with_reducible assumption) | assumption)
            have q171 : x4_1 < (l0_1.length : Int) := of_decide_eq_true (by first | (with_reducible assumption) | assumption)
            obtain ⟨ad171, A171_1, c171_1, e171, hx171_0, hx171_1, hl171_1, hi171_1⟩ := at_T65 HR0_1.out x4_1 p171 q171
            cases e171
            replace hx171_0 := (HB.out.cell (World.block_lt_of_cell? w _ hx171_0)).trans hx171_0
            replace hx171_1 := (HB.out.cell (World.block_lt_of_cell? w _ hx171_1)).trans hx171_1
            have HR171_1 := Aside0.mk hi171_1
            have HC171_1 := Aside0.mk hl171_1
            clear hi171_1 hl171_1
            replace p171 := eq_true p171
            replace q171 := eq_true q171
            obtain ⟨Ao12, co12, eo12⟩ := Kd.R_slice HO_3.out
            subst eo12
            go_wp2_with (first | ((with_reducible refine gate_callee (f := 45) rfl ?_); refine goesL_ (some 22) rfl rfl Try.func45 (by kernel_rfl) rfl #[.slice Ao12 x3_1.length co12, .agg #[.int .i64 ((rd_T65 l0_1 x4_1).f0), .slice A171_1 ((rd_T65 l0_1 x4_1).f1).length c171_1]] rfl (by (try simp only [List.map_toArray, List.map_cons, List.map_nil]); first | done | rfl | (simp only [List.length_drop, List.length_take]; rfl)) ?_; (with_reducible refine (spec_l01Put.calls _ _ x3_1 ((rd_T65 l0_1 x4_1).f0) _ _ ((rd_T65 l0_1 x4_1).f1) t172 _ ?side1 ?side2 ?side3 ?side4 A10.out).mono ?_); (case side1 => repeat (first | exact (Kd.R_reads' HO_3.out).2.2 | (with_reducible refine Kd.C_alloc ?_ _) | (with_reducible refine Kd.C_drewN ?_ _) | (with_reducible refine Kd.C_drew ?_))); (case side2 => exact (Kd.R_reads' HO_3.out).2.1); (case side3 => repeat (first | exact (Kd.C_below HR171_1.out HB.out) | (with_reducible refine Kd.C_alloc ?_ _) | (with_reducible refine Kd.C_drewN ?_ _) | (with_reducible refine Kd.C_drew ?_))); (case side4 => exact HC171_1.out); rintro e w13 ⟨v173, rfl, ho0, hb⟩; refine ⟨_, rfl, ?_⟩; have n0_ := Aside0.mk (Kd.R_elder' (by (with_reducible repeat (first | apply Kd.R_alloc | apply Kd.R_drewN | apply Kd.R_drew)); exact HO_3.out) (Kd.R_base ho0) hb); have n1_ := Aside0.mk (Kd.R_lower (Kd.R_new' ho0 (Kd.R_lt (by (with_reducible repeat (first | apply Kd.R_alloc | apply Kd.R_drewN | apply Kd.R_drew)); exact HO_3.out))) (below_size (by repeat (first | (with_reducible first | exact HB.out | apply below_alloc | apply pw_below_drewN | apply below_drew1 | refine below_set ?_ GE164.out) | exact HB.out)))); have n2_ := Aside0.mk (blk_below (g := gb164) (o := .cells #[.slice A0_0 l0_0.length c0_0, .slice (some ad171) l0_1.length c0_1] 32 (0, 0)) (by (with_reducible repeat (first | refine blk_drewN ?_ _ | refine blk_drew ?_ | refine blk_alloc ?_ _)); exact BK164.out) hb); have n3_ := Aside0.mk (below_step (by repeat (first | (with_reducible first | exact HB.out | apply below_alloc | apply pw_below_drewN | apply below_drew1 | refine below_set ?_ GE164.out) | exact HB.out)) hb); clear HO_3; clear BK164; clear HB; have HO_3 := n0_; have HO174 := n1_; have BK164 := n2_; have HB := n3_; clear n0_ n1_ n2_ n3_; (try clear hb); (try clear hb2); (try clear hk); (try clear hi); (try clear ho0)))
            go_roundg k1
            case measure => have := HK1.out; omega
            case rel => exact ⟨(t172), (wrap64 (x4_1 + 1)), (by first | rfl | (simp; done) | (simp [*]; done)), H', ⟨by have := HK1.out; omega⟩, ⟨by (with_reducible repeat (first | apply Kd.R_alloc | apply Kd.R_drewN | apply Kd.R_drew)); exact Kd.R_mono HO174.out (fun _ hk => trivial)⟩, ⟨by (with_reducible repeat (first | refine blk_drewN ?_ _ | refine blk_drew ?_ | refine blk_alloc ?_ _)); exact BK164.out⟩, ⟨by repeat (first | (with_reducible first | exact HB.out | apply below_alloc | apply pw_below_drewN | apply below_drew1 | refine below_set ?_ GE164.out) | exact HB.out)⟩⟩
          · rw [if_neg c9] at H
            exact absurd H (by simp)
        · rw [if_neg c8] at H
          have c8b0 : decide (x4_1 < (l0_1.length : Int)) = false := decide_eq_false c8
          clear c8
          obtain rfl := Option.some.inj H
          have hcz14_0 : wr.cell? ⟨gb164, 0, none⟩ = some (.slice A0_0 l0_0.length c0_0) := (blk_cell BK164.out 0).trans rfl
          have hcz14_1 : wr.cell? ⟨gb164, 1, none⟩ = some (.slice A0_1 l0_1.length c0_1) := (blk_cell BK164.out 1).trans rfl
          have hfz14_0 := blk_frozen BK164.out 0
          have hfz14_1 := blk_frozen BK164.out 1
          go_wp2
          go_ret
          exact ⟨_, by first | rfl | (simp [errW_none, errW_some] <;> rfl) | (simp [*, errW_none, errW_some] <;> rfl), by (with_reducible repeat (first | apply Kd.R_alloc | apply Kd.R_drewN | apply Kd.R_drew)); exact HO_3.out, by repeat (first | (with_reducible first | exact HB.out | apply below_alloc | apply pw_below_drewN | apply below_drew1 | refine below_set ?_ GE164.out) | exact HB.out)⟩
  · rw [if_neg c2] at H
    exact absurd H (by simp)
def spec_LogOf.f (k : Nat) (l0_0 : List Int) (l0_1 : List (S65)) : Option ((List (List Int)) × Int) := (spec_DeviceOK.f k l0_0 l0_1).bind fun t176 => (if t176 = true then ((spec_l01Read.f k l0_0 l0_1).bind fun t177 => ((spec_l02Scan.f k t177).bind fun bt180 => (some (bt180.1, 0)))) else (some ((([] : List (List Int))), 1)))
theorem spec_LogOf.mono : ∀ a0 a1 k, LeO (spec_LogOf.f k a0 a1) (spec_LogOf.f (k + 1) a0 a1) := by
  intro a0 a1 k
  unfold spec_LogOf.f
  repeat' first
      | (with_reducible exact spec_DeviceOK.mono _ _ _)
      | (with_reducible exact spec_l01Read.mono _ _ _)
      | (with_reducible exact spec_l02Scan.mono _ _)
      | (with_reducible exact LeO.refl _)
      | (with_reducible exact LeO.none _)
      | (with_reducible refine LeO.ite ?_ ?_)
      | (with_reducible refine LeO.bind ?_ (fun _ => ?_))
      | exact spec_DeviceOK.mono _ _ _
      | exact spec_l01Read.mono _ _ _
      | exact spec_l02Scan.mono _ _
      | exact LeO.none _
      | refine LeO.ite ?_ ?_
      | refine LeO.bind ?_ (fun _ => ?_)
set_option maxHeartbeats 8000000 in
set_option maxRecDepth 100000 in
theorem spec_LogOf.calls (k : Nat) (A0_0 : Option Addr) (c0_0 : Nat) (l0_0 : List Int) (A0_1 : Option Addr) (c0_1 : Nat) (l0_1 : List (S65)) (r1 : List (List Int)) (r2 : Int) (w : World) (hr0_0 : Kd.C (Kd.int .u8) w A0_0 l0_0.length l0_0) (hc0_0 : l0_0.length ≤ c0_0) (hr0_1 : Kd.C k65 w A0_1 l0_1.length l0_1) (hc0_1 : l0_1.length ≤ c0_1) (h : spec_LogOf.f k l0_0 l0_1 = some (r1, r2)) :
    Calls Try.prog 15 #[.agg #[.slice A0_0 l0_0.length c0_0, .slice A0_1 l0_1.length c0_1]] w fun e w' => ∃ v0_ : Value, e = .returned (.tuple #[v0_, .int .i64 r2]) ∧ Kd.S (Kd.slice 5 (Kd.int .u8)) 22 w' w.heap.size (fun _ => True) v0_ r1 ∧ Below w.heap.size w w' := by
  have hu32 := Try.underlying32
  have HR0_0 := Aside0.mk hr0_0
  have HC0_0 := Aside0.mk hc0_0
  clear hr0_0 hc0_0
  have HR0_1 := Aside0.mk hr0_1
  have HC0_1 := Aside0.mk hc0_1
  clear hr0_1 hc0_1
  have HB := Aside0.mk (Below.refl w.heap.size w)
  have H : ((spec_DeviceOK.f k l0_0 l0_1).bind fun t176 => (if t176 = true then ((spec_l01Read.f k l0_0 l0_1).bind fun t177 => ((spec_l02Scan.f k t177).bind fun bt180 => (some (bt180.1, 0)))) else (some ((([] : List (List Int))), 1)))) = some (r1, r2) := h
  clear h
  replace H := Option.bind_eq_some_iff.mp H
  obtain ⟨t176, A20, H⟩ := H
  replace H : (if t176 = true then ((spec_l01Read.f k l0_0 l0_1).bind fun t177 => ((spec_l02Scan.f k t177).bind fun bt180 => (some (bt180.1, 0)))) else (some ((([] : List (List Int))), 1))) = some (r1, r2) := H
  have A2 := Aside0.mk A20
  clear A20
  by_cases c3 : t176 = true
  · subst c3
    have H1 : ((spec_l01Read.f k l0_0 l0_1).bind fun t177 => ((spec_l02Scan.f k t177).bind fun bt180 => (some (bt180.1, 0)))) = some (r1, r2) := by rw [if_pos rfl] at H; exact H
    clear H
    have H := H1
    clear H1
    replace H := Option.bind_eq_some_iff.mp H
    obtain ⟨t177, A40, H⟩ := H
    replace H : ((spec_l02Scan.f k t177).bind fun bt180 => (some (bt180.1, 0))) = some (r1, r2) := H
    have A4 := Aside0.mk A40
    clear A40
    replace H := Option.bind_eq_some_iff.mp H
    obtain ⟨⟨t180, t181⟩, A50, H⟩ := H
    replace H : (some (t180, 0)) = some (r1, r2) := H
    have A5 := Aside0.mk A50
    clear A50
    simp only [Option.some.injEq, Prod.mk.injEq] at H
    obtain ⟨rfl, rfl⟩ := H
    go_enter Try.func15, Try.ntmps15
    go_wp2_with (first | ((with_reducible refine gate_dst (N := 1) rfl ?_); refine box_event ?hg (N := 1) ?hd (cs := #[.slice A0_0 l0_0.length c0_0, .slice A0_1 l0_1.length c0_1]) (t := 32) ?hr ?_; (case hd => rfl); (case hg => rfl); (case hr => first | (go_simp; done) | (go_simp; rfl)); intro gb175 hg w6 hbox hb; have n0_ := Aside0.mk (below_step (by repeat (first | (with_reducible first | exact HB.out | apply below_alloc | apply pw_below_drewN | apply below_drew1) | exact HB.out)) hb); have n1_ := Aside0.mk (hbox); have n2_ := Aside0.mk ((by rw [hg]; exact (below_size (by repeat (first | (with_reducible first | exact HB.out | apply below_alloc | apply pw_below_drewN | apply below_drew1) | exact HB.out))) : w.heap.size ≤ gb175)); have n3_ := Aside0.mk ((by rw [hg]; exact (below_size (by repeat (first | (with_reducible first | exact HB.out | apply below_alloc | apply pw_below_drewN | apply below_drew1) | exact HB.out))) : w.heap.size ≤ gb175)); clear HB; have HB := n0_; have BK175 := n1_; have GW175 := n2_; have GE175 := n3_; clear n0_ n1_ n2_ n3_; clear hb hbox hg; have hcz7_0 : w6.cell? ⟨gb175, 0, none⟩ = some (.slice A0_0 l0_0.length c0_0) := (blk_cell BK175.out 0).trans rfl; have hcz7_1 : w6.cell? ⟨gb175, 1, none⟩ = some (.slice A0_1 l0_1.length c0_1) := (blk_cell BK175.out 1).trans rfl; have hfz7_0 := blk_frozen BK175.out 0; have hfz7_1 := blk_frozen BK175.out 1) | ((with_reducible refine gate_callee (f := 28) rfl ?_); refine goesL_ (some 7) rfl rfl Try.func28 (by kernel_rfl) rfl #[.agg #[.slice A0_0 l0_0.length c0_0, .slice A0_1 l0_1.length c0_1]] rfl (by (try simp only [List.map_toArray, List.map_cons, List.map_nil]); first | done | rfl | (simp only [List.length_drop, List.length_take]; rfl)) ?_; (with_reducible refine (spec_DeviceOK.calls k _ _ l0_0 _ _ l0_1 true _ ?side1 ?side2 ?side3 ?side4 A2.out).mono ?_); (case side1 => repeat (first | exact (Kd.C_below HR0_0.out HB.out) | (with_reducible refine Kd.C_alloc ?_ _) | (with_reducible refine Kd.C_drewN ?_ _) | (with_reducible refine Kd.C_drew ?_))); (case side2 => exact HC0_0.out); (case side3 => repeat (first | exact (Kd.C_below HR0_1.out HB.out) | (with_reducible refine Kd.C_alloc ?_ _) | (with_reducible refine Kd.C_drewN ?_ _) | (with_reducible refine Kd.C_drew ?_))); (case side4 => exact HC0_1.out); rintro e w8 ⟨rfl, hb⟩; refine ⟨_, rfl, ?_⟩; have n0_ := Aside0.mk (blk_below (g := gb175) (o := .cells #[.slice A0_0 l0_0.length c0_0, .slice A0_1 l0_1.length c0_1] 32 (0, 0)) (by (with_reducible repeat (first | refine blk_drewN ?_ _ | refine blk_drew ?_ | refine blk_alloc ?_ _)); exact BK175.out) hb); have n1_ := Aside0.mk (below_step (by repeat (first | (with_reducible first | exact HB.out | apply below_alloc | apply pw_below_drewN | apply below_drew1 | refine below_set ?_ GE175.out) | exact HB.out)) hb); clear BK175; clear HB; have BK175 := n0_; have HB := n1_; clear n0_ n1_; (try clear hb); (try clear hb2); (try clear hk); (try clear hi); have hcz9_0 : w8.cell? ⟨gb175, 0, none⟩ = some (.slice A0_0 l0_0.length c0_0) := (blk_cell BK175.out 0).trans rfl; have hcz9_1 : w8.cell? ⟨gb175, 1, none⟩ = some (.slice A0_1 l0_1.length c0_1) := (blk_cell BK175.out 1).trans rfl; have hfz9_0 := blk_frozen BK175.out 0; have hfz9_1 := blk_frozen BK175.out 1) | ((with_reducible refine gate_callee (f := 30) rfl ?_); refine goesL_ (some 12) rfl rfl Try.func30 (by kernel_rfl) rfl #[.agg #[.slice A0_0 l0_0.length c0_0, .slice A0_1 l0_1.length c0_1]] rfl (by (try simp only [List.map_toArray, List.map_cons, List.map_nil]); first | done | rfl | (simp only [List.length_drop, List.length_take]; rfl)) ?_; (with_reducible refine (spec_l01Read.calls k _ _ l0_0 _ _ l0_1 t177 _ ?side1 ?side2 ?side3 ?side4 A4.out).mono ?_); (case side1 => repeat (first | exact (Kd.C_below HR0_0.out HB.out) | (with_reducible refine Kd.C_alloc ?_ _) | (with_reducible refine Kd.C_drewN ?_ _) | (with_reducible refine Kd.C_drew ?_))); (case side2 => exact HC0_0.out); (case side3 => repeat (first | exact (Kd.C_below HR0_1.out HB.out) | (with_reducible refine Kd.C_alloc ?_ _) | (with_reducible refine Kd.C_drewN ?_ _) | (with_reducible refine Kd.C_drew ?_))); (case side4 => exact HC0_1.out); rintro e w10 ⟨v178, rfl, ho0, hb⟩; refine ⟨_, rfl, ?_⟩; have n0_ := Aside0.mk (Kd.R_lower ho0 (below_size (by repeat (first | (with_reducible first | exact HB.out | apply below_alloc | apply pw_below_drewN | apply below_drew1 | refine below_set ?_ GE175.out) | exact HB.out)))); have n1_ := Aside0.mk (blk_below (g := gb175) (o := .cells #[.slice A0_0 l0_0.length c0_0, .slice A0_1 l0_1.length c0_1] 32 (0, 0)) (by (with_reducible repeat (first | refine blk_drewN ?_ _ | refine blk_drew ?_ | refine blk_alloc ?_ _)); exact BK175.out) hb); have n2_ := Aside0.mk (below_step (by repeat (first | (with_reducible first | exact HB.out | apply below_alloc | apply pw_below_drewN | apply below_drew1 | refine below_set ?_ GE175.out) | exact HB.out)) hb); clear BK175; clear HB; have HO179 := n0_; have BK175 := n1_; have HB := n2_; clear n0_ n1_ n2_; (try clear hb); (try clear hb2); (try clear hk); (try clear hi); (try clear ho0); obtain ⟨Ao11, co11, eo11⟩ := Kd.R_slice HO179.out; subst eo11) | ((with_reducible refine gate_callee (f := 29) rfl ?_); refine goesL_ (some 13) rfl rfl Try.func29 (by kernel_rfl) rfl #[.slice Ao11 t177.length co11] rfl (by (try simp only [List.map_toArray, List.map_cons, List.map_nil]); first | done | rfl | (simp only [List.length_drop, List.length_take]; rfl)) ?_; (with_reducible refine (spec_l02Scan.calls k _ _ t177 t180 t181 _ ?side1 ?side2 A5.out).mono ?_); (case side1 => repeat (first | exact (Kd.R_reads' HO179.out).2.2 | (with_reducible refine Kd.C_alloc ?_ _) | (with_reducible refine Kd.C_drewN ?_ _) | (with_reducible refine Kd.C_drew ?_))); (case side2 => exact (Kd.R_reads' HO179.out).2.1); rintro e w12 ⟨v182, rfl, ho0, hb⟩; refine ⟨_, rfl, ?_⟩; have n0_ := Aside0.mk (Kd.R_below (by (with_reducible repeat (first | apply Kd.R_alloc | apply Kd.R_drewN | apply Kd.R_drew)); exact HO179.out) hb); have n1_ := Aside0.mk (Kd.S_lower (Kd.S_new' ho0 (Kd.R_lt (by (with_reducible repeat (first | apply Kd.R_alloc | apply Kd.R_drewN | apply Kd.R_drew)); exact HO179.out))) (below_size (by repeat (first | (with_reducible first | exact HB.out | apply below_alloc | apply pw_below_drewN | apply below_drew1 | refine below_set ?_ GE175.out) | exact HB.out)))); have n2_ := Aside0.mk (blk_below (g := gb175) (o := .cells #[.slice A0_0 l0_0.length c0_0, .slice A0_1 l0_1.length c0_1] 32 (0, 0)) (by (with_reducible repeat (first | refine blk_drewN ?_ _ | refine blk_drew ?_ | refine blk_alloc ?_ _)); exact BK175.out) hb); have n3_ := Aside0.mk (below_step (by repeat (first | (with_reducible first | exact HB.out | apply below_alloc | apply pw_below_drewN | apply below_drew1 | refine below_set ?_ GE175.out) | exact HB.out)) hb); clear HO179; clear BK175; clear HB; have HO179 := n0_; have HO183 := n1_; have BK175 := n2_; have HB := n3_; clear n0_ n1_ n2_ n3_; (try clear hb); (try clear hb2); (try clear hk); (try clear hi); (try clear ho0)))
    go_ret2
    exact ⟨_, by first | rfl | (simp [errW_none, errW_some] <;> rfl) | (simp [*, errW_none, errW_some] <;> rfl), by (with_reducible repeat (first | apply Kd.S_alloc | apply Kd.S_drewN | apply Kd.S_drew)); exact Kd.S_mono HO183.out (fun _ hk => trivial), by repeat (first | (with_reducible first | exact HB.out | apply below_alloc | apply pw_below_drewN | apply below_drew1 | refine below_set ?_ GE175.out) | exact HB.out)⟩
  · replace c3 := Bool.eq_false_iff.mpr c3
    subst c3
    have H1 : (some ((([] : List (List Int))), 1)) = some (r1, r2) := by rw [if_neg (show ¬ (false = true) by decide)] at H; exact H
    clear H
    have H := H1
    clear H1
    obtain ⟨y184, hy184⟩ : ∃ y_ : List (List Int), y_ = (([] : List (List Int))) := ⟨_, rfl⟩
    replace H : (some (y184, 1)) = some (r1, r2) := by first | (rw [hy184]; with_reducible exact H) | (have H2_ := (Option.bind_some _ _).symm.trans H; rw [hy184]; with_reducible exact H2_) | (have H2_ := (Option.bind_some _ _).symm.trans H; with_reducible exact H2_) | with_reducible exact H | (rw [hy184]; exact H) | exact H
    have Ny184 := Aside0.mk hy184
    clear hy184
    simp only [Option.some.injEq, Prod.mk.injEq] at H
    obtain ⟨rfl, rfl⟩ := H
    go_enter Try.func15, Try.ntmps15
    go_wp2_with (first | ((with_reducible refine gate_dst (N := 1) rfl ?_); refine box_event ?hg (N := 1) ?hd (cs := #[.slice A0_0 l0_0.length c0_0, .slice A0_1 l0_1.length c0_1]) (t := 32) ?hr ?_; (case hd => rfl); (case hg => rfl); (case hr => first | (go_simp; done) | (go_simp; rfl)); intro gb175 hg w13 hbox hb; have n0_ := Aside0.mk (below_step (by repeat (first | (with_reducible first | exact HB.out | apply below_alloc | apply pw_below_drewN | apply below_drew1) | exact HB.out)) hb); have n1_ := Aside0.mk (hbox); have n2_ := Aside0.mk ((by rw [hg]; exact (below_size (by repeat (first | (with_reducible first | exact HB.out | apply below_alloc | apply pw_below_drewN | apply below_drew1) | exact HB.out))) : w.heap.size ≤ gb175)); have n3_ := Aside0.mk ((by rw [hg]; exact (below_size (by repeat (first | (with_reducible first | exact HB.out | apply below_alloc | apply pw_below_drewN | apply below_drew1) | exact HB.out))) : w.heap.size ≤ gb175)); clear HB; have HB := n0_; have BK175 := n1_; have GW175 := n2_; have GE175 := n3_; clear n0_ n1_ n2_ n3_; clear hb hbox hg; have hcz14_0 : w13.cell? ⟨gb175, 0, none⟩ = some (.slice A0_0 l0_0.length c0_0) := (blk_cell BK175.out 0).trans rfl; have hcz14_1 : w13.cell? ⟨gb175, 1, none⟩ = some (.slice A0_1 l0_1.length c0_1) := (blk_cell BK175.out 1).trans rfl; have hfz14_0 := blk_frozen BK175.out 0; have hfz14_1 := blk_frozen BK175.out 1) | ((with_reducible refine gate_callee (f := 28) rfl ?_); refine goesL_ (some 7) rfl rfl Try.func28 (by kernel_rfl) rfl #[.agg #[.slice A0_0 l0_0.length c0_0, .slice A0_1 l0_1.length c0_1]] rfl (by (try simp only [List.map_toArray, List.map_cons, List.map_nil]); first | done | rfl | (simp only [List.length_drop, List.length_take]; rfl)) ?_; (with_reducible refine (spec_DeviceOK.calls k _ _ l0_0 _ _ l0_1 false _ ?side1 ?side2 ?side3 ?side4 A2.out).mono ?_); (case side1 => repeat (first | exact (Kd.C_below HR0_0.out HB.out) | (with_reducible refine Kd.C_alloc ?_ _) | (with_reducible refine Kd.C_drewN ?_ _) | (with_reducible refine Kd.C_drew ?_))); (case side2 => exact HC0_0.out); (case side3 => repeat (first | exact (Kd.C_below HR0_1.out HB.out) | (with_reducible refine Kd.C_alloc ?_ _) | (with_reducible refine Kd.C_drewN ?_ _) | (with_reducible refine Kd.C_drew ?_))); (case side4 => exact HC0_1.out); rintro e w15 ⟨rfl, hb⟩; refine ⟨_, rfl, ?_⟩; have n0_ := Aside0.mk (blk_below (g := gb175) (o := .cells #[.slice A0_0 l0_0.length c0_0, .slice A0_1 l0_1.length c0_1] 32 (0, 0)) (by (with_reducible repeat (first | refine blk_drewN ?_ _ | refine blk_drew ?_ | refine blk_alloc ?_ _)); exact BK175.out) hb); have n1_ := Aside0.mk (below_step (by repeat (first | (with_reducible first | exact HB.out | apply below_alloc | apply pw_below_drewN | apply below_drew1 | refine below_set ?_ GE175.out) | exact HB.out)) hb); clear BK175; clear HB; have BK175 := n0_; have HB := n1_; clear n0_ n1_; (try clear hb); (try clear hb2); (try clear hk); (try clear hi)) | ((with_reducible refine gate_dst (N := 9) rfl ?_); refine Kd.S_lit (Kd.slice 5 (Kd.int .u8)) _ 22 ?hg (N := 9) ?hd (xs := ([] : List (List Int))) (inner := []) (ok := fun _ => True) (okp := fun _ => True) ?hr ?hp (fun _ hk => hk) trivial (Below.refl _ _) (Nat.le_refl _) (by simp) ?_; (case hd => rfl); (case hg => rfl); (case hr => first | (go_simp; done) | (go_simp; rfl)); (case hp => exact (Reps.none _ _)); intro v185 w16 ho17 hb hg_ hnew_; clear hg_ hnew_; (first | rw [← Ny184.out] at ho17 | (simp only [Int.reduceToNat] at ho17; rw [← Ny184.out] at ho17)); have n0_ := Aside0.mk (Kd.S_lower ho17 (below_size (by repeat (first | (with_reducible first | exact HB.out | apply below_alloc | apply pw_below_drewN | apply below_drew1 | refine below_set ?_ GE175.out) | exact HB.out)))); have n1_ := Aside0.mk (blk_below (g := gb175) (o := .cells #[.slice A0_0 l0_0.length c0_0, .slice A0_1 l0_1.length c0_1] 32 (0, 0)) (by (with_reducible repeat (first | refine blk_drewN ?_ _ | refine blk_drew ?_ | refine blk_alloc ?_ _)); exact BK175.out) hb); have n2_ := Aside0.mk (below_step (by repeat (first | (with_reducible first | exact HB.out | apply below_alloc | apply pw_below_drewN | apply below_drew1 | refine below_set ?_ GE175.out) | exact HB.out)) hb); clear BK175; clear HB; have HO186 := n0_; have BK175 := n1_; have HB := n2_; clear n0_ n1_ n2_; clear hb ho17))
    go_ret2
    exact ⟨_, by first | rfl | (simp [errW_none, errW_some] <;> rfl) | (simp [*, errW_none, errW_some] <;> rfl), by (with_reducible repeat (first | apply Kd.S_alloc | apply Kd.S_drewN | apply Kd.S_drew)); exact HO186.out, by repeat (first | (with_reducible first | exact HB.out | apply below_alloc | apply pw_below_drewN | apply below_drew1 | refine below_set ?_ GE175.out) | exact HB.out)⟩
def spec_l03Change.f (a0_0 : ByteArray) (a0_1 : ByteArray) (a0_2 : Bool) : Option (Bool) := if (a0_0.size : Int) > 0 then (if (a0_0.size : Int) ≤ 60 then (if (a0_1.size : Int) ≤ 400 then (if a0_2 = true then (some (a0_1.toList == ([] : List UInt8))) else (some true)) else (some false)) else (some false)) else (some false)
set_option maxHeartbeats 8000000 in
set_option maxRecDepth 100000 in
theorem spec_l03Change.calls (a0_0 : ByteArray) (a0_1 : ByteArray) (a0_2 : Bool) (r : Bool) (w : World) (h : spec_l03Change.f a0_0 a0_1 a0_2 = some r) :
    Calls Try.prog 62 #[.agg #[.string a0_0, .string a0_1, .bool a0_2]] w fun e w' => e = .returned (.bool r) ∧ Below w.heap.size w w' := by
  have hu79 := Try.underlying79
  have HB := Aside0.mk (Below.refl w.heap.size w)
  have H : (if (a0_0.size : Int) > 0 then (if (a0_0.size : Int) ≤ 60 then (if (a0_1.size : Int) ≤ 400 then (if a0_2 = true then (some (a0_1.toList == ([] : List UInt8))) else (some true)) else (some false)) else (some false)) else (some false)) = some r := h
  clear h
  by_cases c2 : (a0_0.size : Int) > 0
  · rw [if_pos c2] at H
    have c2b0 : decide (0 < (a0_0.size : Int)) = true := decide_eq_true c2
    have c2b1 : decide (0 < a0_0.size) = true := decide_eq_true (by omega)
    clear c2
    by_cases c3 : (a0_0.size : Int) ≤ 60
    · rw [if_pos c3] at H
      have c3b0 : decide ((a0_0.size : Int) ≤ 60) = true := decide_eq_true c3
      have c3b1 : decide (a0_0.size ≤ 60) = true := decide_eq_true (by omega)
      clear c3
      by_cases c4 : (a0_1.size : Int) ≤ 400
      · rw [if_pos c4] at H
        have c4b0 : decide ((a0_1.size : Int) ≤ 400) = true := decide_eq_true c4
        have c4b1 : decide (a0_1.size ≤ 400) = true := decide_eq_true (by omega)
        clear c4
        by_cases c5 : a0_2 = true
        · subst c5
          have H1 : (some (a0_1.toList == ([] : List UInt8))) = some r := by rw [if_pos rfl] at H; exact H
          clear H
          have H := H1
          clear H1
          obtain rfl := Option.some.inj H
          go_enter Try.func62, Try.ntmps62
          go_wp2_with (first | ((with_reducible refine gate_dst (N := 1) rfl ?_); (try (refine gate_guard (by rfl) ?_; dsimp only)); refine box_event ?hg (N := 1) ?hd (cs := #[.string a0_0, .string a0_1, .bool true]) (t := 79) ?hr ?_; (case hd => rfl); (case hg => rfl); (case hr => first | (go_simp; done) | (go_simp; rfl)); intro gb187 hg w6 hbox hb; have n0_ := Aside0.mk (below_step (by repeat (first | (with_reducible first | exact HB.out | apply below_alloc | apply pw_below_drewN | apply below_drew1) | exact HB.out)) hb); have n1_ := Aside0.mk (hbox); have n2_ := Aside0.mk ((by rw [hg]; exact (below_size (by repeat (first | (with_reducible first | exact HB.out | apply below_alloc | apply pw_below_drewN | apply below_drew1) | exact HB.out))) : w.heap.size ≤ gb187)); have n3_ := Aside0.mk ((by rw [hg]; exact (below_size (by repeat (first | (with_reducible first | exact HB.out | apply below_alloc | apply pw_below_drewN | apply below_drew1) | exact HB.out))) : w.heap.size ≤ gb187)); clear HB; have HB := n0_; have BK187 := n1_; have GW187 := n2_; have GE187 := n3_; clear n0_ n1_ n2_ n3_; clear hb hbox hg; have hcz7_0 : w6.cell? ⟨gb187, 0, none⟩ = some (.string a0_0) := (blk_cell BK187.out 0).trans rfl; have hcz7_1 : w6.cell? ⟨gb187, 1, none⟩ = some (.string a0_1) := (blk_cell BK187.out 1).trans rfl; have hcz7_2 : w6.cell? ⟨gb187, 2, none⟩ = some (.bool true) := (blk_cell BK187.out 2).trans rfl; have hfz7_0 := blk_frozen BK187.out 0; have hfz7_1 := blk_frozen BK187.out 1; have hfz7_2 := blk_frozen BK187.out 2))
          go_ret
          exact ⟨by first | rfl | (simp [errW_none, errW_some] <;> rfl) | (simp [*, errW_none, errW_some] <;> rfl), by repeat (first | (with_reducible first | exact HB.out | apply below_alloc | apply pw_below_drewN | apply below_drew1 | refine below_set ?_ GE187.out) | exact HB.out)⟩
        · replace c5 := Bool.eq_false_iff.mpr c5
          subst c5
          have H1 : (some true) = some r := by rw [if_neg (show ¬ (false = true) by decide)] at H; exact H
          clear H
          have H := H1
          clear H1
          obtain rfl := Option.some.inj H
          go_enter Try.func62, Try.ntmps62
          go_wp2_with (first | ((with_reducible refine gate_dst (N := 1) rfl ?_); (try (refine gate_guard (by rfl) ?_; dsimp only)); refine box_event ?hg (N := 1) ?hd (cs := #[.string a0_0, .string a0_1, .bool false]) (t := 79) ?hr ?_; (case hd => rfl); (case hg => rfl); (case hr => first | (go_simp; done) | (go_simp; rfl)); intro gb187 hg w8 hbox hb; have n0_ := Aside0.mk (below_step (by repeat (first | (with_reducible first | exact HB.out | apply below_alloc | apply pw_below_drewN | apply below_drew1) | exact HB.out)) hb); have n1_ := Aside0.mk (hbox); have n2_ := Aside0.mk ((by rw [hg]; exact (below_size (by repeat (first | (with_reducible first | exact HB.out | apply below_alloc | apply pw_below_drewN | apply below_drew1) | exact HB.out))) : w.heap.size ≤ gb187)); have n3_ := Aside0.mk ((by rw [hg]; exact (below_size (by repeat (first | (with_reducible first | exact HB.out | apply below_alloc | apply pw_below_drewN | apply below_drew1) | exact HB.out))) : w.heap.size ≤ gb187)); clear HB; have HB := n0_; have BK187 := n1_; have GW187 := n2_; have GE187 := n3_; clear n0_ n1_ n2_ n3_; clear hb hbox hg; have hcz9_0 : w8.cell? ⟨gb187, 0, none⟩ = some (.string a0_0) := (blk_cell BK187.out 0).trans rfl; have hcz9_1 : w8.cell? ⟨gb187, 1, none⟩ = some (.string a0_1) := (blk_cell BK187.out 1).trans rfl; have hcz9_2 : w8.cell? ⟨gb187, 2, none⟩ = some (.bool false) := (blk_cell BK187.out 2).trans rfl; have hfz9_0 := blk_frozen BK187.out 0; have hfz9_1 := blk_frozen BK187.out 1; have hfz9_2 := blk_frozen BK187.out 2))
          go_ret
          exact ⟨by first | rfl | (simp [errW_none, errW_some] <;> rfl) | (simp [*, errW_none, errW_some] <;> rfl), by repeat (first | (with_reducible first | exact HB.out | apply below_alloc | apply pw_below_drewN | apply below_drew1 | refine below_set ?_ GE187.out) | exact HB.out)⟩
      · rw [if_neg c4] at H
        have c4b0 : decide ((a0_1.size : Int) ≤ 400) = false := decide_eq_false c4
        have c4b1 : decide (a0_1.size ≤ 400) = false := decide_eq_false (by omega)
        clear c4
        obtain rfl := Option.some.inj H
        go_enter Try.func62, Try.ntmps62
        go_wp2_with (first | ((with_reducible refine gate_dst (N := 1) rfl ?_); (try (refine gate_guard (by rfl) ?_; dsimp only)); refine box_event ?hg (N := 1) ?hd (cs := #[.string a0_0, .string a0_1, .bool a0_2]) (t := 79) ?hr ?_; (case hd => rfl); (case hg => rfl); (case hr => first | (go_simp; done) | (go_simp; rfl)); intro gb187 hg w10 hbox hb; have n0_ := Aside0.mk (below_step (by repeat (first | (with_reducible first | exact HB.out | apply below_alloc | apply pw_below_drewN | apply below_drew1) | exact HB.out)) hb); have n1_ := Aside0.mk (hbox); have n2_ := Aside0.mk ((by rw [hg]; exact (below_size (by repeat (first | (with_reducible first | exact HB.out | apply below_alloc | apply pw_below_drewN | apply below_drew1) | exact HB.out))) : w.heap.size ≤ gb187)); have n3_ := Aside0.mk ((by rw [hg]; exact (below_size (by repeat (first | (with_reducible first | exact HB.out | apply below_alloc | apply pw_below_drewN | apply below_drew1) | exact HB.out))) : w.heap.size ≤ gb187)); clear HB; have HB := n0_; have BK187 := n1_; have GW187 := n2_; have GE187 := n3_; clear n0_ n1_ n2_ n3_; clear hb hbox hg; have hcz11_0 : w10.cell? ⟨gb187, 0, none⟩ = some (.string a0_0) := (blk_cell BK187.out 0).trans rfl; have hcz11_1 : w10.cell? ⟨gb187, 1, none⟩ = some (.string a0_1) := (blk_cell BK187.out 1).trans rfl; have hcz11_2 : w10.cell? ⟨gb187, 2, none⟩ = some (.bool a0_2) := (blk_cell BK187.out 2).trans rfl; have hfz11_0 := blk_frozen BK187.out 0; have hfz11_1 := blk_frozen BK187.out 1; have hfz11_2 := blk_frozen BK187.out 2))
        go_ret
        exact ⟨by first | rfl | (simp [errW_none, errW_some] <;> rfl) | (simp [*, errW_none, errW_some] <;> rfl), by repeat (first | (with_reducible first | exact HB.out | apply below_alloc | apply pw_below_drewN | apply below_drew1 | refine below_set ?_ GE187.out) | exact HB.out)⟩
    · rw [if_neg c3] at H
      have c3b0 : decide ((a0_0.size : Int) ≤ 60) = false := decide_eq_false c3
      have c3b1 : decide (a0_0.size ≤ 60) = false := decide_eq_false (by omega)
      clear c3
      obtain rfl := Option.some.inj H
      go_enter Try.func62, Try.ntmps62
      go_wp2_with (first | ((with_reducible refine gate_dst (N := 1) rfl ?_); (try (refine gate_guard (by rfl) ?_; dsimp only)); refine box_event ?hg (N := 1) ?hd (cs := #[.string a0_0, .string a0_1, .bool a0_2]) (t := 79) ?hr ?_; (case hd => rfl); (case hg => rfl); (case hr => first | (go_simp; done) | (go_simp; rfl)); intro gb187 hg w12 hbox hb; have n0_ := Aside0.mk (below_step (by repeat (first | (with_reducible first | exact HB.out | apply below_alloc | apply pw_below_drewN | apply below_drew1) | exact HB.out)) hb); have n1_ := Aside0.mk (hbox); have n2_ := Aside0.mk ((by rw [hg]; exact (below_size (by repeat (first | (with_reducible first | exact HB.out | apply below_alloc | apply pw_below_drewN | apply below_drew1) | exact HB.out))) : w.heap.size ≤ gb187)); have n3_ := Aside0.mk ((by rw [hg]; exact (below_size (by repeat (first | (with_reducible first | exact HB.out | apply below_alloc | apply pw_below_drewN | apply below_drew1) | exact HB.out))) : w.heap.size ≤ gb187)); clear HB; have HB := n0_; have BK187 := n1_; have GW187 := n2_; have GE187 := n3_; clear n0_ n1_ n2_ n3_; clear hb hbox hg; have hcz13_0 : w12.cell? ⟨gb187, 0, none⟩ = some (.string a0_0) := (blk_cell BK187.out 0).trans rfl; have hcz13_1 : w12.cell? ⟨gb187, 1, none⟩ = some (.string a0_1) := (blk_cell BK187.out 1).trans rfl; have hcz13_2 : w12.cell? ⟨gb187, 2, none⟩ = some (.bool a0_2) := (blk_cell BK187.out 2).trans rfl; have hfz13_0 := blk_frozen BK187.out 0; have hfz13_1 := blk_frozen BK187.out 1; have hfz13_2 := blk_frozen BK187.out 2))
      go_ret
      exact ⟨by first | rfl | (simp [errW_none, errW_some] <;> rfl) | (simp [*, errW_none, errW_some] <;> rfl), by repeat (first | (with_reducible first | exact HB.out | apply below_alloc | apply pw_below_drewN | apply below_drew1 | refine below_set ?_ GE187.out) | exact HB.out)⟩
  · rw [if_neg c2] at H
    have c2b0 : decide (0 < (a0_0.size : Int)) = false := decide_eq_false c2
    have c2b1 : decide (0 < a0_0.size) = false := decide_eq_false (by omega)
    clear c2
    obtain rfl := Option.some.inj H
    go_enter Try.func62, Try.ntmps62
    go_wp2_with (first | ((with_reducible refine gate_dst (N := 1) rfl ?_); (try (refine gate_guard (by rfl) ?_; dsimp only)); refine box_event ?hg (N := 1) ?hd (cs := #[.string a0_0, .string a0_1, .bool a0_2]) (t := 79) ?hr ?_; (case hd => rfl); (case hg => rfl); (case hr => first | (go_simp; done) | (go_simp; rfl)); intro gb187 hg w14 hbox hb; have n0_ := Aside0.mk (below_step (by repeat (first | (with_reducible first | exact HB.out | apply below_alloc | apply pw_below_drewN | apply below_drew1) | exact HB.out)) hb); have n1_ := Aside0.mk (hbox); have n2_ := Aside0.mk ((by rw [hg]; exact (below_size (by repeat (first | (with_reducible first | exact HB.out | apply below_alloc | apply pw_below_drewN | apply below_drew1) | exact HB.out))) : w.heap.size ≤ gb187)); have n3_ := Aside0.mk ((by rw [hg]; exact (below_size (by repeat (first | (with_reducible first | exact HB.out | apply below_alloc | apply pw_below_drewN | apply below_drew1) | exact HB.out))) : w.heap.size ≤ gb187)); clear HB; have HB := n0_; have BK187 := n1_; have GW187 := n2_; have GE187 := n3_; clear n0_ n1_ n2_ n3_; clear hb hbox hg; have hcz15_0 : w14.cell? ⟨gb187, 0, none⟩ = some (.string a0_0) := (blk_cell BK187.out 0).trans rfl; have hcz15_1 : w14.cell? ⟨gb187, 1, none⟩ = some (.string a0_1) := (blk_cell BK187.out 1).trans rfl; have hcz15_2 : w14.cell? ⟨gb187, 2, none⟩ = some (.bool a0_2) := (blk_cell BK187.out 2).trans rfl; have hfz15_0 := blk_frozen BK187.out 0; have hfz15_1 := blk_frozen BK187.out 1; have hfz15_2 := blk_frozen BK187.out 2))
    go_ret
    exact ⟨by first | rfl | (simp [errW_none, errW_some] <;> rfl) | (simp [*, errW_none, errW_some] <;> rfl), by repeat (first | (with_reducible first | exact HB.out | apply below_alloc | apply pw_below_drewN | apply below_drew1 | refine below_set ?_ GE187.out) | exact HB.out)⟩
def spec_l03Batch.l0 : Nat → List (S79) → Int → Option (Bool)
  | 0, _, _ => none
  | k + 1, x0, x3 => if x3 < (x0.length : Int) then (if 0 ≤ x3 then ((spec_l03Change.f ((rd_T79 x0 x3).f0) ((rd_T79 x0 x3).f1) ((rd_T79 x0 x3).f2)).bind fun t189 => (if t189 = true then (spec_l03Batch.l0 k x0 (wrap64 (x3 + 1))) else (some false))) else (none)) else (some true)
def spec_l03Batch.f (k : Nat) (l0 : List (S79)) : Option (Bool) := if (l0.length : Int) > 30 then (some false) else (spec_l03Batch.l0 k l0 0)
theorem spec_l03Batch.mono_l : ∀ k, (∀ y0 y1, LeO (spec_l03Batch.l0 k y0 y1) (spec_l03Batch.l0 (k + 1) y0 y1))
  | 0 => fun _ _ r h => by simp [spec_l03Batch.l0] at h
  | k + 1 => by
    have ih0 := spec_l03Batch.mono_l k
    · intro y0 y1
      unfold spec_l03Batch.l0
      repeat' first
      | (with_reducible exact ih0 _ _)
      | (with_reducible exact LeO.refl _)
      | (with_reducible exact LeO.none _)
      | (with_reducible refine LeO.ite ?_ ?_)
      | (with_reducible refine LeO.bind ?_ (fun _ => ?_))
      | exact ih0 _ _
      | exact LeO.none _
      | refine LeO.ite ?_ ?_
      | refine LeO.bind ?_ (fun _ => ?_)
theorem spec_l03Batch.mono : ∀ a0 k, LeO (spec_l03Batch.f k a0) (spec_l03Batch.f (k + 1) a0) := by
  intro a0 k
  have ih0 := spec_l03Batch.mono_l k
  unfold spec_l03Batch.f
  repeat' first
      | (with_reducible exact ih0 _ _)
      | (with_reducible exact LeO.refl _)
      | (with_reducible exact LeO.none _)
      | (with_reducible refine LeO.ite ?_ ?_)
      | (with_reducible refine LeO.bind ?_ (fun _ => ?_))
      | exact ih0 _ _
      | exact LeO.none _
      | refine LeO.ite ?_ ?_
      | refine LeO.bind ?_ (fun _ => ?_)
set_option maxHeartbeats 8000000 in
set_option maxRecDepth 100000 in
theorem spec_l03Batch.calls (k : Nat) (A0 : Option Addr) (c0 : Nat) (l0 : List (S79)) (r : Bool) (w : World) (hr0 : Kd.C k79 w A0 l0.length l0) (hc0 : l0.length ≤ c0) (h : spec_l03Batch.f k l0 = some r) :
    Calls Try.prog 46 #[.slice A0 l0.length c0] w fun e w' => e = .returned (.bool r) ∧ Below w.heap.size w w' := by
  have hu79 := Try.underlying79
  have HR0 := Aside0.mk hr0
  have HC0 := Aside0.mk hc0
  clear hr0 hc0
  have HB := Aside0.mk (Below.refl w.heap.size w)
  have H : (if (l0.length : Int) > 30 then (some false) else (spec_l03Batch.l0 k l0 0)) = some r := h
  clear h
  by_cases c2 : (l0.length : Int) > 30
  · rw [if_pos c2] at H
    have c2b0 : decide (30 < (l0.length : Int)) = true := decide_eq_true c2
    have c2b1 : decide (30 < l0.length) = true := decide_eq_true (by omega)
    clear c2
    obtain rfl := Option.some.inj H
    go_enter Try.func46, Try.ntmps46
    go_wp2
    go_ret
    exact ⟨by first | rfl | (simp [errW_none, errW_some] <;> rfl) | (simp [*, errW_none, errW_some] <;> rfl), by repeat (first | (with_reducible first | exact HB.out | apply below_alloc | apply pw_below_drewN | apply below_drew1) | exact HB.out)⟩
  · rw [if_neg c2] at H
    have c2b0 : decide (30 < (l0.length : Int)) = false := decide_eq_false c2
    have c2b1 : decide (30 < l0.length) = false := decide_eq_false (by omega)
    clear c2
    have H' := Aside0.mk H
    clear H
    go_enter Try.func46, Try.ntmps46
    go_wp2
    go_loopg [3] k (fun kq v3 w' => ∃ (x3_1 : Int), v3 = .int .i64 x3_1 ∧ Aside0 (spec_l03Batch.l0 kq l0 x3_1 = some r) ∧ Aside0 (kq ≤ k) ∧ Aside0 (Below w.heap.size w w'))
    case atStart => exact ⟨(0), (by first | rfl | (simp; done) | (simp [*]; done)), H', ⟨Nat.le_refl _⟩, ⟨by repeat (first | (with_reducible first | exact HB.out | apply below_alloc | apply pw_below_drewN | apply below_drew1) | exact HB.out)⟩⟩
    case round =>
      clear H'
      try clear c2
      try clear c2b0
      try clear c2b1
      try clear p2
      obtain ⟨x3_1, rfl, HA, HK1, HB⟩ := hrel
      cases gk with
      | zero => exact absurd HA.out (by simp [spec_l03Batch.l0])
      | succ k1 =>
        have H := HA.out
        clear HA
        simp only [spec_l03Batch.l0] at H
        by_cases c3 : x3_1 < (l0.length : Int)
        · rw [if_pos c3] at H
          have c3b0 : decide (x3_1 < (l0.length : Int)) = true := decide_eq_true c3
          clear c3
          by_cases c4 : 0 ≤ x3_1
          · rw [if_pos c4] at H
            have c4b0 : decide (0 ≤ x3_1) = true := decide_eq_true c4
            clear c4
            replace H := Option.bind_eq_some_iff.mp H
            obtain ⟨t189, A50, H⟩ := H
            replace H : (if t189 = true then (spec_l03Batch.l0 k1 l0 (wrap64 (x3_1 + 1))) else (some false)) = some r := H
            have A5 := Aside0.mk A50
            clear A50
            by_cases c6 : t189 = true
            · subst c6
              have H1 : (spec_l03Batch.l0 k1 l0 (wrap64 (x3_1 + 1))) = some r := by rw [if_pos rfl] at H; exact H
              clear H
              have H := H1
              clear H1
              have H' := Aside0.mk H
              clear H
              have p188 : 0 ≤ (x3_1 : Int) := of_decide_eq_true (by first | (with_reducible assumption) | assumption)
              have q188 : x3_1 < (l0.length : Int) := of_decide_eq_true (by first | (with_reducible assumption) | assumption)
              obtain ⟨ad188, e188, hx188_0, hx188_1, hx188_2⟩ := at_T79 HR0.out x3_1 p188 q188
              cases e188
              replace hx188_0 := (HB.out.cell (World.block_lt_of_cell? w _ hx188_0)).trans hx188_0
              replace hx188_1 := (HB.out.cell (World.block_lt_of_cell? w _ hx188_1)).trans hx188_1
              replace hx188_2 := (HB.out.cell (World.block_lt_of_cell? w _ hx188_2)).trans hx188_2
              replace p188 := eq_true p188
              replace q188 := eq_true q188
              go_wp2_with (first | ((with_reducible refine gate_callee (f := 62) rfl ?_); refine goesL_ (some 17) rfl rfl Try.func62 (by kernel_rfl) rfl #[.agg #[.string ((rd_T79 l0 x3_1).f0), .string ((rd_T79 l0 x3_1).f1), .bool ((rd_T79 l0 x3_1).f2)]] rfl (by (try simp only [List.map_toArray, List.map_cons, List.map_nil]); first | done | rfl | (simp only [List.length_drop, List.length_take]; rfl)) ?_; (with_reducible refine (spec_l03Change.calls ((rd_T79 l0 x3_1).f0) ((rd_T79 l0 x3_1).f1) ((rd_T79 l0 x3_1).f2) true _ A5.out).mono ?_); rintro e w7 ⟨rfl, hb⟩; refine ⟨_, rfl, ?_⟩; have n0_ := Aside0.mk (below_step (by repeat (first | (with_reducible first | exact HB.out | apply below_alloc | apply pw_below_drewN | apply below_drew1) | exact HB.out)) hb); clear HB; have HB := n0_; clear n0_; (try clear hb); (try clear hb2); (try clear hk); (try clear hi)))
              go_roundg k1
              case measure => have := HK1.out; omega
              case rel => exact ⟨(wrap64 (x3_1 + 1)), (by first | rfl | (simp; done) | (simp [*]; done)), H', ⟨by have := HK1.out; omega⟩, ⟨by repeat (first | (with_reducible first | exact HB.out | apply below_alloc | apply pw_below_drewN | apply below_drew1) | exact HB.out)⟩⟩
            · replace c6 := Bool.eq_false_iff.mpr c6
              subst c6
              have H1 : (some false) = some r := by rw [if_neg (show ¬ (false = true) by decide)] at H; exact H
              clear H
              have H := H1
              clear H1
              obtain rfl := Option.some.inj H
              have p188 : 0 ≤ (x3_1 : Int) := of_decide_eq_true (by first | (with_reducible assumption) | assumption)
              have q188 : x3_1 < (l0.length : Int) := of_decide_eq_true (by first | (with_reducible assumption) | assumption)
              obtain ⟨ad188, e188, hx188_0, hx188_1, hx188_2⟩ := at_T79 HR0.out x3_1 p188 q188
              cases e188
              replace hx188_0 := (HB.out.cell (World.block_lt_of_cell? w _ hx188_0)).trans hx188_0
              replace hx188_1 := (HB.out.cell (World.block_lt_of_cell? w _ hx188_1)).trans hx188_1
              replace hx188_2 := (HB.out.cell (World.block_lt_of_cell? w _ hx188_2)).trans hx188_2
              replace p188 := eq_true p188
              replace q188 := eq_true q188
              go_wp2_with (first | ((with_reducible refine gate_callee (f := 62) rfl ?_); refine goesL_ (some 17) rfl rfl Try.func62 (by kernel_rfl) rfl #[.agg #[.string ((rd_T79 l0 x3_1).f0), .string ((rd_T79 l0 x3_1).f1), .bool ((rd_T79 l0 x3_1).f2)]] rfl (by (try simp only [List.map_toArray, List.map_cons, List.map_nil]); first | done | rfl | (simp only [List.length_drop, List.length_take]; rfl)) ?_; (with_reducible refine (spec_l03Change.calls ((rd_T79 l0 x3_1).f0) ((rd_T79 l0 x3_1).f1) ((rd_T79 l0 x3_1).f2) false _ A5.out).mono ?_); rintro e w8 ⟨rfl, hb⟩; refine ⟨_, rfl, ?_⟩; have n0_ := Aside0.mk (below_step (by repeat (first | (with_reducible first | exact HB.out | apply below_alloc | apply pw_below_drewN | apply below_drew1) | exact HB.out)) hb); clear HB; have HB := n0_; clear n0_; (try clear hb); (try clear hb2); (try clear hk); (try clear hi)))
              go_ret
              exact ⟨by first | rfl | (simp [errW_none, errW_some] <;> rfl) | (simp [*, errW_none, errW_some] <;> rfl), by repeat (first | (with_reducible first | exact HB.out | apply below_alloc | apply pw_below_drewN | apply below_drew1) | exact HB.out)⟩
          · rw [if_neg c4] at H
            exact absurd H (by simp)
        · rw [if_neg c3] at H
          have c3b0 : decide (x3_1 < (l0.length : Int)) = false := decide_eq_false c3
          clear c3
          obtain rfl := Option.some.inj H
          go_wp2
          go_ret
          exact ⟨by first | rfl | (simp [errW_none, errW_some] <;> rfl) | (simp [*, errW_none, errW_some] <;> rfl), by repeat (first | (with_reducible first | exact HB.out | apply below_alloc | apply pw_below_drewN | apply below_drew1) | exact HB.out)⟩
def spec_l03Read.go (l : List Int) : Option (S79 × List Int) :=
  let k := (l.getD 0 0).toNat
  let r1 := (l.drop 1).drop k
  let n := (r1.getD 0 0 * 256 + r1.getD 1 0).toNat
  let r2 := r1.drop 2
  if (l.drop 1).length < k ∨ r1.length < 2 ∨ r2.length < n - 1 then none else some (⟨strOfNums ((l.drop 1).take k), strOfNums (r2.take (n - 1)), n == 0⟩, r2.drop (n - 1))
def spec_l03Read.all : Nat → List Int → List S79 → List S79 × Bool
  | 0, _, out => (out, false)
  | k + 1, l, out => if l.length = 0 then (out, true) else
    match spec_l03Read.go l with
    | none => (out, false)
    | some (s, r) => spec_l03Read.all k r (out ++ [s])
def spec_l03Read.res (K : Nat) (p : List S79 × Bool) : Option (List S79 × Bool) := if p.2 = true then (spec_l03Batch.f K p.1).bind fun b => some (p.1, b) else some (p.1, false)
def spec_l03Read.f (K : Nat) (l0 : List Int) : Option ((List (S79)) × Bool) :=
  if l0.length ≤ 65536 ∧ l0.all (fun x => decide (0 ≤ x) && decide (x < 256)) = true then spec_l03Read.res K (spec_l03Read.all (l0.length + 1) l0 []) else none
theorem spec_l03Read.mono : ∀ a0 k, LeO (spec_l03Read.f k a0) (spec_l03Read.f (k + 1) a0) := by
  intro a0 k
  unfold spec_l03Read.f spec_l03Read.res
  exact LeO.ite (LeO.ite (LeO.bind (spec_l03Batch.mono _ k) (fun _ => LeO.refl _)) (LeO.refl _)) (LeO.refl _)
theorem spec_l03Read.go_is (l : List Int) (a k : Nat) (hb : ∀ x ∈ l, 0 ≤ x ∧ x < 256) (ha : a < l.length) (hk : l.getD a 0 = (k : Int)) (n : Nat) (hn : l.length < a + 1 + k + 2 ∨ l.getD (a + 1 + k) 0 * 256 + l.getD (a + 1 + k + 1) 0 = (n : Int)) :
    spec_l03Read.go (l.drop a) = if l.length < a + 1 + k + 2 ∨ l.length < a + 1 + k + 2 + (n - 1) then none else some (⟨strOfNums ((l.take (a + 1 + k)).drop (a + 1)), strOfNums ((l.take (a + 1 + k + 2 + (n - 1))).drop (a + 1 + k + 2)), n == 0⟩, l.drop (a + 1 + k + 2 + (n - 1))) := by
  have g : ∀ i j : Nat, (l.drop i).getD j 0 = l.getD (i + j) 0 := fun i j => by simp [List.getD_eq_getElem?_getD, List.getElem?_drop]
  have e0 : (l.drop a).getD 0 0 = (k : Int) := by rw [g]; exact hk
  unfold spec_l03Read.go
  rw [e0, Int.toNat_natCast]
  simp only [List.drop_drop]
  have e1 : a + (1 + k) = a + 1 + k := by omega
  rw [show a + 1 + k = a + 1 + k from rfl]
  simp only [g, List.length_drop]
  by_cases c : l.length < a + 1 + k + 2
  · rw [if_pos (by omega), if_pos (by omega)]
  · have hn2 := hn.resolve_left c
    rw [show a + 1 + k + 0 = a + 1 + k from rfl, hn2, Int.toNat_natCast]
    by_cases c2 : l.length < a + 1 + k + 2 + (n - 1)
    · rw [if_pos (by omega), if_pos (by omega)]
    · rw [if_neg (by omega), if_neg (by omega), List.drop_take, List.drop_take]
      rw [show a + 1 + k - (a + 1) = k by omega, show a + 1 + k + 2 + (n - 1) - (a + 1 + k + 2) = n - 1 by omega]
set_option maxHeartbeats 8000000 in
set_option maxRecDepth 100000 in
theorem spec_l03Read.calls (K : Nat) (A0 : Option Addr) (c0 : Nat) (l0 : List Int) (r1 : List (S79)) (r2 : Bool) (w : World) (hr0 : Kd.C (Kd.int .u8) w A0 l0.length l0) (hc0 : l0.length ≤ c0) (h : spec_l03Read.f K l0 = some (r1, r2)) :
    Calls Try.prog 31 #[.slice A0 l0.length c0] w fun e w' => ∃ v0_ : Value, e = .returned (.tuple #[v0_, .bool r2]) ∧ Kd.R k79 79 w' w.heap.size (fun _ => True) v0_ r1 ∧ Below w.heap.size w w' := by
  have hu := Try.underlying79
  unfold spec_l03Read.f at h
  have hs : l0.length ≤ 65536 ∧ l0.all (fun x => decide (0 ≤ x) && decide (x < 256)) = true := Decidable.byContradiction fun hs => by rw [if_neg hs] at h; cases h
  rw [if_pos hs] at h
  have hall : ∀ x ∈ l0, 0 ≤ x ∧ x < 256 := by
    have := hs.2
    simp only [List.all_eq_true, Bool.and_eq_true, decide_eq_true_eq] at this
    exact this
  obtain ⟨hlen, _⟩ := hs
  have hlenz : (l0.length : Int) ≤ 65536 := by omega
  have hge : ∀ i : Nat, ∃ x : Nat, l0.getD i 0 = (x : Int) ∧ x ≤ 255 := fun i => by
    by_cases hi : i < l0.length
    · have := hall _ (show l0.getD i 0 ∈ l0 by rw [List.getD_eq_getElem?_getD, List.getElem?_eq_getElem hi]; exact List.getElem_mem hi)
      exact ⟨(l0.getD i 0).toNat, by omega, by omega⟩
    · exact ⟨0, by rw [List.getD_eq_getElem?_getD, List.getElem?_eq_none (by omega)]; rfl, by decide⟩
  obtain ⟨p, hp⟩ : ∃ p, spec_l03Read.all (l0.length + 1) l0 [] = p := ⟨_, rfl⟩
  rw [hp] at h
  have HR := Aside0.mk h
  have HP := Aside0.mk hp
  have HALL := Aside0.mk hall
  have HGE := Aside0.mk hge
  have HC := Aside0.mk hr0
  have HB := Aside0.mk (Below.refl w.heap.size w)
  clear h hp hall hr0 hge
  go_enter Try.func31, Try.ntmps31
  go_wp2_with (first
      | ((with_reducible refine gate_dst (N := 9) rfl ?_); refine Kd.R_lit k79 _ 79 ?hg (N := 9) ?hd (xs := []) (inner := []) (ok := fun _ => True) (okp := fun _ => True) ?hr ?hp (fun _ hk => hk) trivial (Below.refl _ _) (Nat.le_refl _) (by simp) ?_; (case hd => rfl); (case hg => rfl); (case hr => first | (go_simp; done) | (go_simp; rfl)); (case hp => exact Reps.none _ _); intro v126 w5 ho6 hb hg_ hnew_; clear hg_ hnew_; have HO := Aside0.mk ho6; have n1_ := Aside0.mk hb; clear HB; have HB := n1_; clear n1_; clear hb ho6))
  go_loopg [4, 5, 6, 7, 8] l0.length (fun gg s4 s5 _ _ _ wr => ∃ (a F : Nat) (out : List S79), a ≤ l0.length ∧ l0.length - a ≤ gg ∧ s5 = .int .i64 a ∧ out.length ≤ a ∧ Aside0 (l0.length - a < F ∧ spec_l03Read.all F (l0.drop a) out = p) ∧ Aside0 (Kd.R k79 79 wr w.heap.size (fun _ => True) s4 out) ∧ Aside0 (Below w.heap.size w wr))
  case atStart => exact ⟨0, l0.length + 1, [], by omega, by omega, rfl, by simp, ⟨⟨by omega, HP.out⟩⟩, HO, HB⟩
  case round =>
    obtain ⟨a, F, out, ha, hg, rfl, hout, HF, HO, HB⟩ := hrel
    by_cases hlt : a < l0.length
    · have hltz : (a : Int) < (l0.length : Int) := by omega
      obtain ⟨hF, hG⟩ := HF.out
      obtain ⟨F, rfl⟩ : ∃ m, F = m + 1 := ⟨F - 1, by omega⟩
      rw [spec_l03Read.all, if_neg (by rw [List.length_drop]; omega)] at hG
      obtain ⟨k, hk, hk2⟩ := HGE.out a
      obtain ⟨ad, rfl, hx⟩ := Kd.at_int (Kd.C_below HC.out HB.out) (a : Int) (by omega) (by omega)
      rw [Int.toNat_natCast, show rd l0 (a : Int) = l0.getD a 0 by simp [rd], hk] at hx
      have hkz : (k : Int) ≤ 255 := by omega
      have wk : IntKind.i64.wrap (k : Int) = k := by rw [IntKind.wrap_i64]; omega
      obtain ⟨a1, ha1⟩ : ∃ a1 : Nat, a + 1 = a1 := ⟨_, rfl⟩
      obtain ⟨q, hq⟩ : ∃ q : Nat, a + 1 + k = q := ⟨_, rfl⟩
      obtain ⟨q1, hq1⟩ : ∃ q1 : Nat, q + 1 = q1 := ⟨_, rfl⟩
      obtain ⟨q2, hq2⟩ : ∃ q2 : Nat, q + 2 = q2 := ⟨_, rfl⟩
      obtain ⟨k1, hk1⟩ : ∃ k1 : Nat, 1 + k = k1 := ⟨_, rfl⟩
      have b1 : (a1 : Int) ≤ 65537 := by omega
      have b2 : (q : Int) ≤ 66000 := by omega
      have b3 : (k1 : Int) ≤ 256 := by omega
      have E1 := Aside0.mk (show (a : Int) + 1 = a1 by omega)
      have E2 := Aside0.mk (show (a1 : Int) + k = q by omega)
      have E3 := Aside0.mk (show (q : Int) + 2 = q2 by omega)
      have E4 := Aside0.mk (show 1 + (k : Int) = k1 by omega)
      have E5 := Aside0.mk (show (a : Int) + k1 = q by omega)
      have E6 := Aside0.mk (show (q : Int) + 1 = q1 by omega)
      by_cases hf1 : l0.length < q2
      · -- no room for the head
        have hgo := spec_l03Read.go_is l0 a k HALL.out hlt hk 0 (.inl (by omega))
        rw [if_pos (.inl (by omega))] at hgo
        rw [hgo] at hG
        have hG : (out, false) = p := hG
        have hr := HR.out
        rw [← hG] at hr
        have hr : some (out, false) = some (r1, r2) := hr
        injection hr with hr
        injection hr with e1 e2
        subst e1 e2
        have hf1z : (l0.length : Int) < (q2 : Int) := by omega
        clear hgo hG hF HF HR hk ha1 hq hq1 hq2 hk1
        have e1 := E1.out
        have e2 := E2.out
        have e3 := E3.out
        go_wp2
        go_ret2
        exact ⟨_, rfl, HO.out, HB.out⟩
      · obtain ⟨x, hx0, hx2⟩ := HGE.out q
        obtain ⟨y, hy0, hy2⟩ := HGE.out q1
        obtain ⟨ad', e, hxx⟩ := Kd.at_int (Kd.C_below HC.out HB.out) (q : Int) (by omega) (by omega)
        cases e
        obtain ⟨ad', e, hyy⟩ := Kd.at_int (Kd.C_below HC.out HB.out) (q1 : Int) (by omega) (by omega)
        cases e
        rw [Int.toNat_natCast, show rd l0 (q : Int) = l0.getD q 0 by simp [rd], hx0] at hxx
        rw [Int.toNat_natCast, show rd l0 (q1 : Int) = l0.getD q1 0 by simp [rd], hy0] at hyy
        obtain ⟨n, hn⟩ : ∃ n : Nat, x * 256 + y = n := ⟨_, rfl⟩
        have hgo := spec_l03Read.go_is l0 a k HALL.out hlt hk n (.inr (by rw [hq, hq1, hx0, hy0]; omega))
        rw [hq, ha1, hq2] at hgo
        obtain ⟨i0, hi0, _, hsz, _⟩ := info_parts info5
        obtain ⟨A1, c1, r1_, q1_⟩ := print_mid_int (P := Try.prog) (k := .u8) 22 5 Try.underlying22 hi0 hsz (some ad) c0 l0 (a1 : Int) (q : Int) (by omega) (by omega) (by omega) hc0
        rw [Int.toNat_natCast, Int.toNat_natCast] at c1 r1_
        have HK := Aside0.mk (fun W hW => Kd.C_string (P := Try.prog) (A := A1) (c := c0 - a1) Try.underlying22 Try.underlying5 Try.underlying9 (Kd.C_of_reads (h1 := fun _ => rfl) (r1_ W (Kd.reads_of_C (enc := Value.int .u8) (d := (0 : Int)) (h1 := fun _ => rfl) hW))))
        have hf1z : ¬ (l0.length : Int) < (q2 : Int) := by omega
        have hf1g : ¬ (q2 : Int) > (l0.length : Int) := by omega
        have hqz : (q : Int) < (l0.length : Int) := by omega
        have hq1z : (q1 : Int) < (l0.length : Int) := by omega
        have haq : (a1 : Int) ≤ (q : Int) := by omega
        have hql : (q : Int) ≤ (l0.length : Int) := by omega
        have hxz : (x : Int) ≤ 255 := by omega
        have hyz : (y : Int) ≤ 255 := by omega
        have wx : IntKind.i64.wrap (x : Int) = x := by rw [IntKind.wrap_i64]; omega
        have wy : IntKind.i64.wrap (y : Int) = y := by rw [IntKind.wrap_i64]; omega
        have hlq : l0.length ≤ 65536 := hlen
        rcases Nat.eq_zero_or_pos n with rfl | hpos
        · obtain ⟨rfl, rfl⟩ : x = 0 ∧ y = 0 := ⟨by omega, by omega⟩
          rw [if_neg (by omega)] at hgo
          rw [hgo] at hG
          have hG : spec_l03Read.all F (l0.drop (q2 + (0 - 1))) (out ++ [⟨strOfNums ((l0.take q).drop a1), strOfNums ((l0.take (q2 + (0 - 1))).drop q2), (0 == 0)⟩]) = p := hG
          rw [show q2 + (0 - 1) = q2 by omega, show ((0 : Nat) == 0) = true from rfl] at hG
          obtain ⟨A2, c2, r2_, q2_⟩ := print_mid_int (P := Try.prog) (k := .u8) 22 5 Try.underlying22 hi0 hsz (some ad) c0 l0 (q2 : Int) (q2 : Int) (by omega) (by omega) (by omega) hc0
          rw [Int.toNat_natCast] at c2 r2_
          have HV := Aside0.mk (fun W hW => Kd.C_string (P := Try.prog) (A := A2) (c := c0 - q2) Try.underlying22 Try.underlying5 Try.underlying9 (Kd.C_of_reads (h1 := fun _ => rfl) (r2_ W (Kd.reads_of_C (enc := Value.int .u8) (d := (0 : Int)) (h1 := fun _ => rfl) hW))))
          generalize hvl : (l0.take q2).drop q2 = vl at *
          have HVL := Aside0.mk hvl
          have HF2 := Aside0.mk (show l0.length - q2 < F by omega)
          have hq2l : (q2 : Int) ≤ (l0.length : Int) := by omega
          have hm1 : (a : Nat) + 1 ≤ q2 := by omega
          have hql2 : q2 ≤ l0.length := by omega
          clear hvl r2_ q2_ hgo HGE hn
          have hcv1 := HK.out wr (Kd.C_below HC.out HB.out)
          have e1 := E1.out
          have e2 := E2.out
          have e3 := E3.out
          have e4 := E4.out
          have e5 := E5.out
          have e6 := E6.out
          generalize hkey : (l0.take q).drop a1 = key at *
          have HKEY := Aside0.mk hkey
          clear hkey hk ha1 hq hq1 hq2 hk1 r1_ q1_ hi0 hsz hx0 hy0 HF HP hF
          have HG := Aside0.mk hG
          clear hG
          go_wp2_with fail
          obtain ⟨W9, hW9⟩ : ∃ W_, W_ = wr.alloc (.cells #[.string (strOfNums key), .string (⟨#[]⟩ : ByteArray), .bool false] 79) := ⟨_, rfl⟩
          obtain ⟨gb, hgb⟩ : ∃ g_, g_ = wr.heap.size := ⟨_, rfl⟩
          rw [← hW9, ← hgb]
          have hbox : W9.heap[gb]? = some (.cells #[.string (strOfNums key), .string (⟨#[]⟩ : ByteArray), .bool false] 79 (0, 0)) := by rw [hW9, hgb]; exact blk_new _ _
          have BX := Aside0.mk hbox
          have GE := Aside0.mk (show w.heap.size ≤ gb by rw [hgb]; exact below_size HB.out)
          have HB9 := Aside0.mk (show Below w.heap.size w W9 by rw [hW9]; exact below_alloc HB.out _)
          have HO9 := Aside0.mk (show Kd.R k79 79 W9 w.heap.size (fun k => True ∧ k ≠ gb) u4 out by rw [hW9, hgb]; exact Kd.R_alloc (Kd.R_elderB HO.out wr.heap.size (Nat.le_refl _)) _)
          have hxx9 : W9.cell? (ad.add q) = some (.int .u8 (0 : Int)) := by rw [hW9]; exact Lib.cell?_alloc_some _ hxx
          have hyy9 : W9.cell? (ad.add q1) = some (.int .u8 (0 : Int)) := by rw [hW9]; exact Lib.cell?_alloc_some _ hyy
          clear hbox hW9 hgb hxx hyy hx
          have w1 : IntKind.i64.wrap 0 = 0 := by decide
          have w2 : IntKind.i64.wrap (-1) = -1 := by decide
          have w3 : IntKind.i64.wrap (q1 : Int) = q1 := by rw [IntKind.wrap_i64]; omega
          refine start_ (n := 15) (S := fun w' => w'.cell? (ad.add q) = some (.int .u8 (0 : Int)) ∧ w'.cell? (ad.add q1) = some (.int .u8 (0 : Int))) (ds := []) #[false, false, false, false, false, false, false, false, false, false, false, false, false, false, false] (by kernel_rfl) rfl rfl ⟨hxx9, hyy9⟩ (fun hHeld => ?_)
          refine pure_ (i := 0) (N := some 42) (v := ?_) (a' := ?_) #[true, false, false, false, false, false, false, false, false, false, false, false, false, false, false] rfl rfl (by kernel_rfl) (fun _ _ _ h => h) (Or.inl ⟨by rfl, ?_⟩) ?_ ?_
          rotate_left
          · intro w'
            go_simp
            with_reducible rfl
          rotate_left
          · simp only [Act.put, List.setIfInBounds_toArray, List.set_cons_zero, List.set_cons_succ, i64_w, i32_w]
            rfl
          refine pure_ (i := 1) (N := some 43) (v := ?_) (a' := ?_) #[true, true, false, false, false, false, false, false, false, false, false, false, false, false, false] rfl rfl (by kernel_rfl) (fun _ _ _ h => h) (Or.inl ⟨by rfl, ?_⟩) ?_ ?_
          rotate_left
          · intro w'
            go_simp
            with_reducible rfl
          rotate_left
          · simp only [Act.put, List.setIfInBounds_toArray, List.set_cons_zero, List.set_cons_succ, i64_w, i32_w]
            rfl
          refine pure_ (i := 2) (N := some 44) (v := ?_) (a' := ?_) #[true, true, true, false, false, false, false, false, false, false, false, false, false, false, false] rfl rfl (by kernel_rfl) (fun _ _ _ h => h) (Or.inl ⟨by rfl, ?_⟩) ?_ ?_
          rotate_left
          · intro w'
            go_simp
            with_reducible rfl
          rotate_left
          · simp only [Act.put, List.setIfInBounds_toArray, List.set_cons_zero, List.set_cons_succ, i64_w, i32_w]
            rfl
          refine pure_ (i := 6) (N := some 48) (v := ?_) (a' := ?_) #[true, true, true, false, false, false, true, false, false, false, false, false, false, false, false] rfl rfl (by kernel_rfl) (fun _ _ _ h => h) (Or.inl ⟨by rfl, ?_⟩) ?_ ?_
          rotate_left
          · intro w'
            go_simp
            with_reducible rfl
          rotate_left
          · simp only [Act.put, List.setIfInBounds_toArray, List.set_cons_zero, List.set_cons_succ, i64_w, i32_w]
            rfl
          refine pure_ (i := 7) (N := some 49) (v := ?_) (a' := ?_) #[true, true, true, false, false, false, true, true, false, false, false, false, false, false, false] rfl rfl (by kernel_rfl) (fun _ _ _ h => h) (Or.inl ⟨by rfl, ?_⟩) ?_ ?_
          rotate_left
          · intro w'
            go_simp
            with_reducible rfl
          rotate_left
          · simp only [Act.put, List.setIfInBounds_toArray, List.set_cons_zero, List.set_cons_succ, i64_w, i32_w]
            rfl
          refine pure_ (i := 8) (N := some 50) (v := ?_) (a' := ?_) #[true, true, true, false, false, false, true, true, true, false, false, false, false, false, false] rfl rfl (by kernel_rfl) (fun _ _ _ h => h) (Or.inl ⟨by rfl, ?_⟩) ?_ ?_
          rotate_left
          · intro w'
            go_simp
            with_reducible rfl
          rotate_left
          · simp only [Act.put, List.setIfInBounds_toArray, List.set_cons_zero, List.set_cons_succ, i64_w, i32_w]
            rfl
          refine pure_ (i := 9) (N := some 51) (v := ?_) (a' := ?_) #[true, true, true, false, false, false, true, true, true, true, false, false, false, false, false] rfl rfl (by kernel_rfl) (fun _ _ _ h => h) (Or.inl ⟨by rfl, ?_⟩) ?_ ?_
          rotate_left
          · intro w'
            go_simp
            with_reducible rfl
          rotate_left
          · simp only [Act.put, List.setIfInBounds_toArray, List.set_cons_zero, List.set_cons_succ, i64_w, i32_w]
            rfl
          refine take_ (i := 3) (N := some 45) (v := ?_) (a' := ?_) #[true, true, true, true, false, false, true, true, true, true, false, false, false, false, false] rfl rfl (by kernel_rfl) (fun _ _ _ h => h) (Or.inl ⟨by rfl, ?_⟩) hHeld ?_ ?_
          rotate_left
          · rintro w' ⟨s0, s1⟩
            go_simp
            with_reducible rfl
          rotate_left
          · simp only [Act.put, List.setIfInBounds_toArray, List.set_cons_zero, List.set_cons_succ, i64_w, i32_w]
            rfl
          refine pure_ (i := 4) (N := some 46) (v := ?_) (a' := ?_) #[true, true, true, true, true, false, true, true, true, true, false, false, false, false, false] rfl rfl (by kernel_rfl) (fun _ _ _ h => h) (Or.inl ⟨by rfl, ?_⟩) ?_ ?_
          rotate_left
          · intro w'
            go_simp
            with_reducible rfl
          rotate_left
          · simp only [Act.put, List.setIfInBounds_toArray, List.set_cons_zero, List.set_cons_succ, i64_w, i32_w]
            rfl
          refine pure_ (i := 5) (N := some 47) (v := ?_) (a' := ?_) #[true, true, true, true, true, true, true, true, true, true, false, false, false, false, false] rfl rfl (by kernel_rfl) (fun _ _ _ h => h) (Or.inl ⟨by rfl, ?_⟩) ?_ ?_
          rotate_left
          · intro w'
            go_simp
            with_reducible rfl
          rotate_left
          · simp only [Act.put, List.setIfInBounds_toArray, List.set_cons_zero, List.set_cons_succ, i64_w, i32_w]
            rfl
          refine take_ (i := 10) (N := some 52) (v := ?_) (a' := ?_) #[true, true, true, true, true, true, true, true, true, true, true, false, false, false, false] rfl rfl (by kernel_rfl) (fun _ _ _ h => h) (Or.inl ⟨by rfl, ?_⟩) hHeld ?_ ?_
          rotate_left
          · rintro w' ⟨s0, s1⟩
            go_simp
            with_reducible rfl
          rotate_left
          · simp only [Act.put, List.setIfInBounds_toArray, List.set_cons_zero, List.set_cons_succ, i64_w, i32_w]
            rfl
          refine pure_ (i := 11) (N := some 53) (v := ?_) (a' := ?_) #[true, true, true, true, true, true, true, true, true, true, true, true, false, false, false] rfl rfl (by kernel_rfl) (fun _ _ _ h => h) (Or.inl ⟨by rfl, ?_⟩) ?_ ?_
          rotate_left
          · intro w'
            go_simp
            with_reducible rfl
          rotate_left
          · simp only [Act.put, List.setIfInBounds_toArray, List.set_cons_zero, List.set_cons_succ, i64_w, i32_w]
            rfl
          refine pure_ (i := 12) (N := some 54) (v := ?_) (a' := ?_) #[true, true, true, true, true, true, true, true, true, true, true, true, true, false, false] rfl rfl (by kernel_rfl) (fun _ _ _ h => h) (Or.inl ⟨by rfl, ?_⟩) ?_ ?_
          rotate_left
          · intro w'
            go_simp
            with_reducible rfl
          rotate_left
          · simp only [Act.put, List.setIfInBounds_toArray, List.set_cons_zero, List.set_cons_succ, i64_w, i32_w]
            rfl
          refine pure_ (i := 13) (N := some 55) (v := ?_) (a' := ?_) #[true, true, true, true, true, true, true, true, true, true, true, true, true, true, false] rfl rfl (by kernel_rfl) (fun _ _ _ h => h) (Or.inl ⟨by rfl, ?_⟩) ?_ ?_
          rotate_left
          · intro w'
            go_simp
            with_reducible rfl
          rotate_left
          · simp only [Act.put, List.setIfInBounds_toArray, List.set_cons_zero, List.set_cons_succ, i64_w, i32_w]
            rfl
          refine pure_ (i := 14) (N := some 8) (v := ?_) (a' := ?_) #[true, true, true, true, true, true, true, true, true, true, true, true, true, true, true] rfl rfl (by kernel_rfl) (fun _ _ _ h => h) (Or.inl ⟨by rfl, ?_⟩) ?_ ?_
          rotate_left
          · intro w'
            go_simp
            with_reducible rfl
          rotate_left
          · simp only [Act.put, List.setIfInBounds_toArray, List.set_cons_zero, List.set_cons_succ, i64_w, i32_w]
            rfl
          refine done_ (by kernel_rfl) ?_
          clear hxx9 hyy9 hHeld w1 w2 w3
          obtain ⟨WA, hWA⟩ : ∃ W_, W_ = W9.drew := ⟨_, rfl⟩
          rw [← hWA]
          have HBA := Aside0.mk (show Below w.heap.size w WA by rw [hWA]; exact below_drew1 HB9.out)
          have HOA := Aside0.mk (show Kd.R k79 79 WA w.heap.size (fun k => True ∧ k ≠ gb) u4 out by rw [hWA]; exact Kd.R_drew HO9.out)
          have BXA := Aside0.mk (show WA.heap[gb]? = some (.cells #[.string (strOfNums key), .string (⟨#[]⟩ : ByteArray), .bool false] 79 (0, 0)) by rw [hWA]; exact BX.out)
          clear hWA HB9 HO9 BX
          have y0 : WA.cell? ⟨gb, 0, none⟩ = some (.string (strOfNums key)) := (blk_cell BXA.out 0).trans rfl
          have y1 : WA.cell? ⟨gb, 1, none⟩ = some (.string (⟨#[]⟩ : ByteArray)) := (blk_cell BXA.out 1).trans rfl
          have y2 : WA.cell? ⟨gb, 2, none⟩ = some (.bool false) := (blk_cell BXA.out 2).trans rfl
          have z0 : WA.frozen? ⟨gb, 0, none⟩ = false := blk_frozen BXA.out 0
          have z1 : WA.frozen? ⟨gb, 1, none⟩ = false := blk_frozen BXA.out 1
          have z2 : WA.frozen? ⟨gb, 2, none⟩ = false := blk_frozen BXA.out 2
          have hcv2 : (convert 22 9 (.slice A2 vl.length (c0 - q2))).run Try.prog (WA.setCell ⟨gb, 2, none⟩ (.bool true)) = .ok (.string (strOfNums vl)) (WA.setCell ⟨gb, 2, none⟩ (.bool true)) := HV.out _ (Kd.C_below HC.out (below_set HBA.out GE.out))
          go_wp2_with ((with_reducible refine gate_builtin (b := .append) (xs := #[.tmp 79, .tmp 81]) rfl ?_); at_builtin; refine Kd.R_append k79 (w0 := w) w.heap.size rfl (.tmp 79) (.tmp 81) 61 79 (.agg #[(.string ⟨#[]⟩), (.string ⟨#[]⟩), (.bool false)]) 40 rfl Try.underlying61 info79 rfl (by decide) (by omega) u4 out (⟨strOfNums key, strOfNums vl, true⟩ : S79) [.string (strOfNums key), .string (strOfNums vl), .bool true] (fun _ => True) (fun _ => False) rfl (by first | (go_simp; done) | (go_simp; rfl)) ?aP (fun _ hk => hk.elim) ?aF ?aO ?aB ?aS ?aL ?_; (case aP => exact k79_mkM _ _ _ (⟨strOfNums key, strOfNums vl, true⟩ : S79)); (case aF => exact (fun _ _ => trivial)); (case aO => exact Kd.R_mono (Kd.R_far (p := ⟨gb, 1, none⟩) (Kd.R_far (p := ⟨gb, 2, none⟩) (HOA.out) (fun _ hk => hk.2) _) (fun _ hk => hk.2) _) (fun _ _ => trivial)); (case aB => exact (below_set (below_set HBA.out GE.out) GE.out)); (case aS => exact below_size (below_set (below_set HBA.out GE.out) GE.out)); (case aL => omega); intro v5 w5 ho hb hg_ hat; have HO5 := Aside0.mk ho; have HB5 := Aside0.mk hb; clear ho hb hg_ hat)
          go_roundg (l0.length - q2)
          case measure => omega
          case rel => exact ⟨q2, F, out ++ [⟨strOfNums key, strOfNums vl, true⟩], hql2, Nat.le_refl _, rfl, by rw [List.length_append]; simp; omega, ⟨⟨HF2.out, HG.out⟩⟩, HO5, HB5⟩
        · obtain ⟨j, rfl⟩ : ∃ j, n = j + 1 := ⟨n - 1, by omega⟩
          have hjz : (j : Int) ≤ 65534 := by omega
          have E7 := Aside0.mk (show (x : Int) * 256 + (y : Int) = (j : Int) + 1 by omega)
          have hjw : (j : Int) + 1 - 1 = j := by omega
          have hjn : ¬ ((j : Int) < 0) := by omega
          obtain ⟨q3, hq3⟩ : ∃ q3 : Nat, q2 + j = q3 := ⟨_, rfl⟩
          have b4 : (q3 : Int) ≤ 140000 := by omega
          have E8 := Aside0.mk (show (q2 : Int) + j = q3 by omega)
          rw [show q2 + (j + 1 - 1) = q3 by omega] at hgo
          by_cases hf2 : l0.length < q3
          · rw [if_pos (.inr hf2)] at hgo
            rw [hgo] at hG
            have hG : (out, false) = p := hG
            have hr := HR.out
            rw [← hG] at hr
            have hr : some (out, false) = some (r1, r2) := hr
            injection hr with hr
            injection hr with e1 e2
            subst e1 e2
            have hf2z : (l0.length : Int) < (q3 : Int) := by omega
            clear hgo hG HR HGE hn hq3
            have hcv1 := HK.out wr (Kd.C_below HC.out HB.out)
            have e1 := E1.out
            have e2 := E2.out
            have e3 := E3.out
            have e4 := E4.out
            have e5 := E5.out
            have e6 := E6.out
            generalize hkey : (l0.take q).drop a1 = key at *
            have HKEY := Aside0.mk hkey
            clear hkey hk ha1 hq hq1 hq2 hk1 r1_ q1_ hi0 hsz hx0 hy0 HF HP hF
            go_wp2_with fail
            obtain ⟨W9, hW9⟩ : ∃ W_, W_ = wr.alloc (.cells #[.string (strOfNums key), .string (⟨#[]⟩ : ByteArray), .bool false] 79) := ⟨_, rfl⟩
            obtain ⟨gb, hgb⟩ : ∃ g_, g_ = wr.heap.size := ⟨_, rfl⟩
            rw [← hW9, ← hgb]
            have hbox : W9.heap[gb]? = some (.cells #[.string (strOfNums key), .string (⟨#[]⟩ : ByteArray), .bool false] 79 (0, 0)) := by rw [hW9, hgb]; exact blk_new _ _
            have BX := Aside0.mk hbox
            have GE := Aside0.mk (show w.heap.size ≤ gb by rw [hgb]; exact below_size HB.out)
            have HB9 := Aside0.mk (show Below w.heap.size w W9 by rw [hW9]; exact below_alloc HB.out _)
            have HO9 := Aside0.mk (show Kd.R k79 79 W9 w.heap.size (fun k => True ∧ k ≠ gb) u4 out by rw [hW9, hgb]; exact Kd.R_alloc (Kd.R_elderB HO.out wr.heap.size (Nat.le_refl _)) _)
            have hxx9 : W9.cell? (ad.add q) = some (.int .u8 (x : Int)) := by rw [hW9]; exact Lib.cell?_alloc_some _ hxx
            have hyy9 : W9.cell? (ad.add q1) = some (.int .u8 (y : Int)) := by rw [hW9]; exact Lib.cell?_alloc_some _ hyy
            clear hbox hW9 hgb hxx hyy hx
            have w1 : IntKind.i64.wrap ((x : Int) * 256) = (x : Int) * 256 := by rw [IntKind.wrap_i64]; omega
            have w2 : IntKind.i64.wrap ((x : Int) * 256 + (y : Int)) = (x : Int) * 256 + (y : Int) := by rw [IntKind.wrap_i64]; omega
            have w4 : IntKind.i64.wrap ((x : Int) * 256 + (y : Int) - 1) = (x : Int) * 256 + (y : Int) - 1 := by rw [IntKind.wrap_i64]; omega
            have w3 : IntKind.i64.wrap (q1 : Int) = q1 := by rw [IntKind.wrap_i64]; omega
            refine start_ (n := 15) (S := fun w' => w'.cell? (ad.add q) = some (.int .u8 (x : Int)) ∧ w'.cell? (ad.add q1) = some (.int .u8 (y : Int))) (ds := []) #[false, false, false, false, false, false, false, false, false, false, false, false, false, false, false] (by kernel_rfl) rfl rfl ⟨hxx9, hyy9⟩ (fun hHeld => ?_)
            refine pure_ (i := 0) (N := some 42) (v := ?_) (a' := ?_) #[true, false, false, false, false, false, false, false, false, false, false, false, false, false, false] rfl rfl (by kernel_rfl) (fun _ _ _ h => h) (Or.inl ⟨by rfl, ?_⟩) ?_ ?_
            rotate_left
            · intro w'
              go_simp
              with_reducible rfl
            rotate_left
            · simp only [Act.put, List.setIfInBounds_toArray, List.set_cons_zero, List.set_cons_succ, i64_w, i32_w]
              rfl
            refine pure_ (i := 1) (N := some 43) (v := ?_) (a' := ?_) #[true, true, false, false, false, false, false, false, false, false, false, false, false, false, false] rfl rfl (by kernel_rfl) (fun _ _ _ h => h) (Or.inl ⟨by rfl, ?_⟩) ?_ ?_
            rotate_left
            · intro w'
              go_simp
              with_reducible rfl
            rotate_left
            · simp only [Act.put, List.setIfInBounds_toArray, List.set_cons_zero, List.set_cons_succ, i64_w, i32_w]
              rfl
            refine pure_ (i := 2) (N := some 44) (v := ?_) (a' := ?_) #[true, true, true, false, false, false, false, false, false, false, false, false, false, false, false] rfl rfl (by kernel_rfl) (fun _ _ _ h => h) (Or.inl ⟨by rfl, ?_⟩) ?_ ?_
            rotate_left
            · intro w'
              go_simp
              with_reducible rfl
            rotate_left
            · simp only [Act.put, List.setIfInBounds_toArray, List.set_cons_zero, List.set_cons_succ, i64_w, i32_w]
              rfl
            refine pure_ (i := 6) (N := some 48) (v := ?_) (a' := ?_) #[true, true, true, false, false, false, true, false, false, false, false, false, false, false, false] rfl rfl (by kernel_rfl) (fun _ _ _ h => h) (Or.inl ⟨by rfl, ?_⟩) ?_ ?_
            rotate_left
            · intro w'
              go_simp
              with_reducible rfl
            rotate_left
            · simp only [Act.put, List.setIfInBounds_toArray, List.set_cons_zero, List.set_cons_succ, i64_w, i32_w]
              rfl
            refine pure_ (i := 7) (N := some 49) (v := ?_) (a' := ?_) #[true, true, true, false, false, false, true, true, false, false, false, false, false, false, false] rfl rfl (by kernel_rfl) (fun _ _ _ h => h) (Or.inl ⟨by rfl, ?_⟩) ?_ ?_
            rotate_left
            · intro w'
              go_simp
              with_reducible rfl
            rotate_left
            · simp only [Act.put, List.setIfInBounds_toArray, List.set_cons_zero, List.set_cons_succ, i64_w, i32_w]
              rfl
            refine pure_ (i := 8) (N := some 50) (v := ?_) (a' := ?_) #[true, true, true, false, false, false, true, true, true, false, false, false, false, false, false] rfl rfl (by kernel_rfl) (fun _ _ _ h => h) (Or.inl ⟨by rfl, ?_⟩) ?_ ?_
            rotate_left
            · intro w'
              go_simp
              with_reducible rfl
            rotate_left
            · simp only [Act.put, List.setIfInBounds_toArray, List.set_cons_zero, List.set_cons_succ, i64_w, i32_w]
              rfl
            refine pure_ (i := 9) (N := some 51) (v := ?_) (a' := ?_) #[true, true, true, false, false, false, true, true, true, true, false, false, false, false, false] rfl rfl (by kernel_rfl) (fun _ _ _ h => h) (Or.inl ⟨by rfl, ?_⟩) ?_ ?_
            rotate_left
            · intro w'
              go_simp
              with_reducible rfl
            rotate_left
            · simp only [Act.put, List.setIfInBounds_toArray, List.set_cons_zero, List.set_cons_succ, i64_w, i32_w]
              rfl
            refine take_ (i := 3) (N := some 45) (v := ?_) (a' := ?_) #[true, true, true, true, false, false, true, true, true, true, false, false, false, false, false] rfl rfl (by kernel_rfl) (fun _ _ _ h => h) (Or.inl ⟨by rfl, ?_⟩) hHeld ?_ ?_
            rotate_left
            · rintro w' ⟨s0, s1⟩
              go_simp
              with_reducible rfl
            rotate_left
            · simp only [Act.put, List.setIfInBounds_toArray, List.set_cons_zero, List.set_cons_succ, i64_w, i32_w]
              rfl
            refine pure_ (i := 4) (N := some 46) (v := ?_) (a' := ?_) #[true, true, true, true, true, false, true, true, true, true, false, false, false, false, false] rfl rfl (by kernel_rfl) (fun _ _ _ h => h) (Or.inl ⟨by rfl, ?_⟩) ?_ ?_
            rotate_left
            · intro w'
              go_simp
              with_reducible rfl
            rotate_left
            · simp only [Act.put, List.setIfInBounds_toArray, List.set_cons_zero, List.set_cons_succ, i64_w, i32_w]
              rfl
            refine pure_ (i := 5) (N := some 47) (v := ?_) (a' := ?_) #[true, true, true, true, true, true, true, true, true, true, false, false, false, false, false] rfl rfl (by kernel_rfl) (fun _ _ _ h => h) (Or.inl ⟨by rfl, ?_⟩) ?_ ?_
            rotate_left
            · intro w'
              go_simp
              with_reducible rfl
            rotate_left
            · simp only [Act.put, List.setIfInBounds_toArray, List.set_cons_zero, List.set_cons_succ, i64_w, i32_w]
              rfl
            refine take_ (i := 10) (N := some 52) (v := ?_) (a' := ?_) #[true, true, true, true, true, true, true, true, true, true, true, false, false, false, false] rfl rfl (by kernel_rfl) (fun _ _ _ h => h) (Or.inl ⟨by rfl, ?_⟩) hHeld ?_ ?_
            rotate_left
            · rintro w' ⟨s0, s1⟩
              go_simp
              with_reducible rfl
            rotate_left
            · simp only [Act.put, List.setIfInBounds_toArray, List.set_cons_zero, List.set_cons_succ, i64_w, i32_w]
              rfl
            refine pure_ (i := 11) (N := some 53) (v := ?_) (a' := ?_) #[true, true, true, true, true, true, true, true, true, true, true, true, false, false, false] rfl rfl (by kernel_rfl) (fun _ _ _ h => h) (Or.inl ⟨by rfl, ?_⟩) ?_ ?_
            rotate_left
            · intro w'
              go_simp
              with_reducible rfl
            rotate_left
            · simp only [Act.put, List.setIfInBounds_toArray, List.set_cons_zero, List.set_cons_succ, i64_w, i32_w]
              rfl
            refine pure_ (i := 12) (N := some 54) (v := ?_) (a' := ?_) #[true, true, true, true, true, true, true, true, true, true, true, true, true, false, false] rfl rfl (by kernel_rfl) (fun _ _ _ h => h) (Or.inl ⟨by rfl, ?_⟩) ?_ ?_
            rotate_left
            · intro w'
              go_simp
              with_reducible rfl
            rotate_left
            · simp only [Act.put, List.setIfInBounds_toArray, List.set_cons_zero, List.set_cons_succ, i64_w, i32_w]
              rfl
            refine pure_ (i := 13) (N := some 55) (v := ?_) (a' := ?_) #[true, true, true, true, true, true, true, true, true, true, true, true, true, true, false] rfl rfl (by kernel_rfl) (fun _ _ _ h => h) (Or.inl ⟨by rfl, ?_⟩) ?_ ?_
            rotate_left
            · intro w'
              go_simp
              with_reducible rfl
            rotate_left
            · simp only [Act.put, List.setIfInBounds_toArray, List.set_cons_zero, List.set_cons_succ, i64_w, i32_w]
              rfl
            refine pure_ (i := 14) (N := some 8) (v := ?_) (a' := ?_) #[true, true, true, true, true, true, true, true, true, true, true, true, true, true, true] rfl rfl (by kernel_rfl) (fun _ _ _ h => h) (Or.inl ⟨by rfl, ?_⟩) ?_ ?_
            rotate_left
            · intro w'
              go_simp
              with_reducible rfl
            rotate_left
            · simp only [Act.put, List.setIfInBounds_toArray, List.set_cons_zero, List.set_cons_succ, i64_w, i32_w]
              rfl
            refine done_ (by kernel_rfl) ?_
            clear hxx9 hyy9 hHeld w1 w2 w3
            obtain ⟨WA, hWA⟩ : ∃ W_, W_ = W9.drew := ⟨_, rfl⟩
            rw [← hWA]
            have HBA := Aside0.mk (show Below w.heap.size w WA by rw [hWA]; exact below_drew1 HB9.out)
            have HOA := Aside0.mk (show Kd.R k79 79 WA w.heap.size (fun k => True ∧ k ≠ gb) u4 out by rw [hWA]; exact Kd.R_drew HO9.out)
            have BXA := Aside0.mk (show WA.heap[gb]? = some (.cells #[.string (strOfNums key), .string (⟨#[]⟩ : ByteArray), .bool false] 79 (0, 0)) by rw [hWA]; exact BX.out)
            clear hWA HB9 HO9 BX
            have y0 : WA.cell? ⟨gb, 0, none⟩ = some (.string (strOfNums key)) := (blk_cell BXA.out 0).trans rfl
            have y1 : WA.cell? ⟨gb, 1, none⟩ = some (.string (⟨#[]⟩ : ByteArray)) := (blk_cell BXA.out 1).trans rfl
            have y2 : WA.cell? ⟨gb, 2, none⟩ = some (.bool false) := (blk_cell BXA.out 2).trans rfl
            have z0 : WA.frozen? ⟨gb, 0, none⟩ = false := blk_frozen BXA.out 0
            have z1 : WA.frozen? ⟨gb, 1, none⟩ = false := blk_frozen BXA.out 1
            have z2 : WA.frozen? ⟨gb, 2, none⟩ = false := blk_frozen BXA.out 2
            have e7 := E7.out
            have e8 := E8.out
            go_wp2
            go_ret2
            exact ⟨_, rfl, Kd.R_mono HOA.out (fun _ _ => trivial), HBA.out⟩
          · rw [if_neg (by omega)] at hgo
            rw [hgo] at hG
            have hG : spec_l03Read.all F (l0.drop q3) (out ++ [⟨strOfNums ((l0.take q).drop a1), strOfNums ((l0.take q3).drop q2), (j + 1 == 0)⟩]) = p := hG
            rw [show ((j + 1 : Nat) == 0) = false from rfl] at hG
            obtain ⟨A2, c2, r2_, q2_⟩ := print_mid_int (P := Try.prog) (k := .u8) 22 5 Try.underlying22 hi0 hsz (some ad) c0 l0 (q2 : Int) (q3 : Int) (by omega) (by omega) (by omega) hc0
            rw [Int.toNat_natCast, Int.toNat_natCast] at c2 r2_
            have HV := Aside0.mk (fun W hW => Kd.C_string (P := Try.prog) (A := A2) (c := c0 - q2) Try.underlying22 Try.underlying5 Try.underlying9 (Kd.C_of_reads (h1 := fun _ => rfl) (r2_ W (Kd.reads_of_C (enc := Value.int .u8) (d := (0 : Int)) (h1 := fun _ => rfl) hW))))
            generalize hvl : (l0.take q3).drop q2 = vl at *
            have HVL := Aside0.mk hvl
            have HF2 := Aside0.mk (show l0.length - q3 < F by omega)
            have hf2z : ¬ (l0.length : Int) < (q3 : Int) := by omega
            have hf2g : ¬ (q3 : Int) > (l0.length : Int) := by omega
            have hq2l : (q3 : Int) ≤ (l0.length : Int) := by omega
            have hq23 : (q2 : Int) ≤ (q3 : Int) := by omega
            have hm1 : (a : Nat) + 1 ≤ q3 := by omega
            have hql2 : q3 ≤ l0.length := by omega
            clear hvl r2_ q2_ hgo HGE hn hq3
            have hcv1 := HK.out wr (Kd.C_below HC.out HB.out)
            have e1 := E1.out
            have e2 := E2.out
            have e3 := E3.out
            have e4 := E4.out
            have e5 := E5.out
            have e6 := E6.out
            generalize hkey : (l0.take q).drop a1 = key at *
            have HKEY := Aside0.mk hkey
            clear hkey hk ha1 hq hq1 hq2 hk1 r1_ q1_ hi0 hsz hx0 hy0 HF HP hF
            have HG := Aside0.mk hG
            clear hG
            go_wp2_with fail
            obtain ⟨W9, hW9⟩ : ∃ W_, W_ = wr.alloc (.cells #[.string (strOfNums key), .string (⟨#[]⟩ : ByteArray), .bool false] 79) := ⟨_, rfl⟩
            obtain ⟨gb, hgb⟩ : ∃ g_, g_ = wr.heap.size := ⟨_, rfl⟩
            rw [← hW9, ← hgb]
            have hbox : W9.heap[gb]? = some (.cells #[.string (strOfNums key), .string (⟨#[]⟩ : ByteArray), .bool false] 79 (0, 0)) := by rw [hW9, hgb]; exact blk_new _ _
            have BX := Aside0.mk hbox
            have GE := Aside0.mk (show w.heap.size ≤ gb by rw [hgb]; exact below_size HB.out)
            have HB9 := Aside0.mk (show Below w.heap.size w W9 by rw [hW9]; exact below_alloc HB.out _)
            have HO9 := Aside0.mk (show Kd.R k79 79 W9 w.heap.size (fun k => True ∧ k ≠ gb) u4 out by rw [hW9, hgb]; exact Kd.R_alloc (Kd.R_elderB HO.out wr.heap.size (Nat.le_refl _)) _)
            have hxx9 : W9.cell? (ad.add q) = some (.int .u8 (x : Int)) := by rw [hW9]; exact Lib.cell?_alloc_some _ hxx
            have hyy9 : W9.cell? (ad.add q1) = some (.int .u8 (y : Int)) := by rw [hW9]; exact Lib.cell?_alloc_some _ hyy
            clear hbox hW9 hgb hxx hyy hx
            have w1 : IntKind.i64.wrap ((x : Int) * 256) = (x : Int) * 256 := by rw [IntKind.wrap_i64]; omega
            have w2 : IntKind.i64.wrap ((x : Int) * 256 + (y : Int)) = (x : Int) * 256 + (y : Int) := by rw [IntKind.wrap_i64]; omega
            have w4 : IntKind.i64.wrap ((x : Int) * 256 + (y : Int) - 1) = (x : Int) * 256 + (y : Int) - 1 := by rw [IntKind.wrap_i64]; omega
            have w3 : IntKind.i64.wrap (q1 : Int) = q1 := by rw [IntKind.wrap_i64]; omega
            refine start_ (n := 15) (S := fun w' => w'.cell? (ad.add q) = some (.int .u8 (x : Int)) ∧ w'.cell? (ad.add q1) = some (.int .u8 (y : Int))) (ds := []) #[false, false, false, false, false, false, false, false, false, false, false, false, false, false, false] (by kernel_rfl) rfl rfl ⟨hxx9, hyy9⟩ (fun hHeld => ?_)
            refine pure_ (i := 0) (N := some 42) (v := ?_) (a' := ?_) #[true, false, false, false, false, false, false, false, false, false, false, false, false, false, false] rfl rfl (by kernel_rfl) (fun _ _ _ h => h) (Or.inl ⟨by rfl, ?_⟩) ?_ ?_
            rotate_left
            · intro w'
              go_simp
              with_reducible rfl
            rotate_left
            · simp only [Act.put, List.setIfInBounds_toArray, List.set_cons_zero, List.set_cons_succ, i64_w, i32_w]
              rfl
            refine pure_ (i := 1) (N := some 43) (v := ?_) (a' := ?_) #[true, true, false, false, false, false, false, false, false, false, false, false, false, false, false] rfl rfl (by kernel_rfl) (fun _ _ _ h => h) (Or.inl ⟨by rfl, ?_⟩) ?_ ?_
            rotate_left
            · intro w'
              go_simp
              with_reducible rfl
            rotate_left
            · simp only [Act.put, List.setIfInBounds_toArray, List.set_cons_zero, List.set_cons_succ, i64_w, i32_w]
              rfl
            refine pure_ (i := 2) (N := some 44) (v := ?_) (a' := ?_) #[true, true, true, false, false, false, false, false, false, false, false, false, false, false, false] rfl rfl (by kernel_rfl) (fun _ _ _ h => h) (Or.inl ⟨by rfl, ?_⟩) ?_ ?_
            rotate_left
            · intro w'
              go_simp
              with_reducible rfl
            rotate_left
            · simp only [Act.put, List.setIfInBounds_toArray, List.set_cons_zero, List.set_cons_succ, i64_w, i32_w]
              rfl
            refine pure_ (i := 6) (N := some 48) (v := ?_) (a' := ?_) #[true, true, true, false, false, false, true, false, false, false, false, false, false, false, false] rfl rfl (by kernel_rfl) (fun _ _ _ h => h) (Or.inl ⟨by rfl, ?_⟩) ?_ ?_
            rotate_left
            · intro w'
              go_simp
              with_reducible rfl
            rotate_left
            · simp only [Act.put, List.setIfInBounds_toArray, List.set_cons_zero, List.set_cons_succ, i64_w, i32_w]
              rfl
            refine pure_ (i := 7) (N := some 49) (v := ?_) (a' := ?_) #[true, true, true, false, false, false, true, true, false, false, false, false, false, false, false] rfl rfl (by kernel_rfl) (fun _ _ _ h => h) (Or.inl ⟨by rfl, ?_⟩) ?_ ?_
            rotate_left
            · intro w'
              go_simp
              with_reducible rfl
            rotate_left
            · simp only [Act.put, List.setIfInBounds_toArray, List.set_cons_zero, List.set_cons_succ, i64_w, i32_w]
              rfl
            refine pure_ (i := 8) (N := some 50) (v := ?_) (a' := ?_) #[true, true, true, false, false, false, true, true, true, false, false, false, false, false, false] rfl rfl (by kernel_rfl) (fun _ _ _ h => h) (Or.inl ⟨by rfl, ?_⟩) ?_ ?_
            rotate_left
            · intro w'
              go_simp
              with_reducible rfl
            rotate_left
            · simp only [Act.put, List.setIfInBounds_toArray, List.set_cons_zero, List.set_cons_succ, i64_w, i32_w]
              rfl
            refine pure_ (i := 9) (N := some 51) (v := ?_) (a' := ?_) #[true, true, true, false, false, false, true, true, true, true, false, false, false, false, false] rfl rfl (by kernel_rfl) (fun _ _ _ h => h) (Or.inl ⟨by rfl, ?_⟩) ?_ ?_
            rotate_left
            · intro w'
              go_simp
              with_reducible rfl
            rotate_left
            · simp only [Act.put, List.setIfInBounds_toArray, List.set_cons_zero, List.set_cons_succ, i64_w, i32_w]
              rfl
            refine take_ (i := 3) (N := some 45) (v := ?_) (a' := ?_) #[true, true, true, true, false, false, true, true, true, true, false, false, false, false, false] rfl rfl (by kernel_rfl) (fun _ _ _ h => h) (Or.inl ⟨by rfl, ?_⟩) hHeld ?_ ?_
            rotate_left
            · rintro w' ⟨s0, s1⟩
              go_simp
              with_reducible rfl
            rotate_left
            · simp only [Act.put, List.setIfInBounds_toArray, List.set_cons_zero, List.set_cons_succ, i64_w, i32_w]
              rfl
            refine pure_ (i := 4) (N := some 46) (v := ?_) (a' := ?_) #[true, true, true, true, true, false, true, true, true, true, false, false, false, false, false] rfl rfl (by kernel_rfl) (fun _ _ _ h => h) (Or.inl ⟨by rfl, ?_⟩) ?_ ?_
            rotate_left
            · intro w'
              go_simp
              with_reducible rfl
            rotate_left
            · simp only [Act.put, List.setIfInBounds_toArray, List.set_cons_zero, List.set_cons_succ, i64_w, i32_w]
              rfl
            refine pure_ (i := 5) (N := some 47) (v := ?_) (a' := ?_) #[true, true, true, true, true, true, true, true, true, true, false, false, false, false, false] rfl rfl (by kernel_rfl) (fun _ _ _ h => h) (Or.inl ⟨by rfl, ?_⟩) ?_ ?_
            rotate_left
            · intro w'
              go_simp
              with_reducible rfl
            rotate_left
            · simp only [Act.put, List.setIfInBounds_toArray, List.set_cons_zero, List.set_cons_succ, i64_w, i32_w]
              rfl
            refine take_ (i := 10) (N := some 52) (v := ?_) (a' := ?_) #[true, true, true, true, true, true, true, true, true, true, true, false, false, false, false] rfl rfl (by kernel_rfl) (fun _ _ _ h => h) (Or.inl ⟨by rfl, ?_⟩) hHeld ?_ ?_
            rotate_left
            · rintro w' ⟨s0, s1⟩
              go_simp
              with_reducible rfl
            rotate_left
            · simp only [Act.put, List.setIfInBounds_toArray, List.set_cons_zero, List.set_cons_succ, i64_w, i32_w]
              rfl
            refine pure_ (i := 11) (N := some 53) (v := ?_) (a' := ?_) #[true, true, true, true, true, true, true, true, true, true, true, true, false, false, false] rfl rfl (by kernel_rfl) (fun _ _ _ h => h) (Or.inl ⟨by rfl, ?_⟩) ?_ ?_
            rotate_left
            · intro w'
              go_simp
              with_reducible rfl
            rotate_left
            · simp only [Act.put, List.setIfInBounds_toArray, List.set_cons_zero, List.set_cons_succ, i64_w, i32_w]
              rfl
            refine pure_ (i := 12) (N := some 54) (v := ?_) (a' := ?_) #[true, true, true, true, true, true, true, true, true, true, true, true, true, false, false] rfl rfl (by kernel_rfl) (fun _ _ _ h => h) (Or.inl ⟨by rfl, ?_⟩) ?_ ?_
            rotate_left
            · intro w'
              go_simp
              with_reducible rfl
            rotate_left
            · simp only [Act.put, List.setIfInBounds_toArray, List.set_cons_zero, List.set_cons_succ, i64_w, i32_w]
              rfl
            refine pure_ (i := 13) (N := some 55) (v := ?_) (a' := ?_) #[true, true, true, true, true, true, true, true, true, true, true, true, true, true, false] rfl rfl (by kernel_rfl) (fun _ _ _ h => h) (Or.inl ⟨by rfl, ?_⟩) ?_ ?_
            rotate_left
            · intro w'
              go_simp
              with_reducible rfl
            rotate_left
            · simp only [Act.put, List.setIfInBounds_toArray, List.set_cons_zero, List.set_cons_succ, i64_w, i32_w]
              rfl
            refine pure_ (i := 14) (N := some 8) (v := ?_) (a' := ?_) #[true, true, true, true, true, true, true, true, true, true, true, true, true, true, true] rfl rfl (by kernel_rfl) (fun _ _ _ h => h) (Or.inl ⟨by rfl, ?_⟩) ?_ ?_
            rotate_left
            · intro w'
              go_simp
              with_reducible rfl
            rotate_left
            · simp only [Act.put, List.setIfInBounds_toArray, List.set_cons_zero, List.set_cons_succ, i64_w, i32_w]
              rfl
            refine done_ (by kernel_rfl) ?_
            clear hxx9 hyy9 hHeld w1 w2 w3
            obtain ⟨WA, hWA⟩ : ∃ W_, W_ = W9.drew := ⟨_, rfl⟩
            rw [← hWA]
            have HBA := Aside0.mk (show Below w.heap.size w WA by rw [hWA]; exact below_drew1 HB9.out)
            have HOA := Aside0.mk (show Kd.R k79 79 WA w.heap.size (fun k => True ∧ k ≠ gb) u4 out by rw [hWA]; exact Kd.R_drew HO9.out)
            have BXA := Aside0.mk (show WA.heap[gb]? = some (.cells #[.string (strOfNums key), .string (⟨#[]⟩ : ByteArray), .bool false] 79 (0, 0)) by rw [hWA]; exact BX.out)
            clear hWA HB9 HO9 BX
            have y0 : WA.cell? ⟨gb, 0, none⟩ = some (.string (strOfNums key)) := (blk_cell BXA.out 0).trans rfl
            have y1 : WA.cell? ⟨gb, 1, none⟩ = some (.string (⟨#[]⟩ : ByteArray)) := (blk_cell BXA.out 1).trans rfl
            have y2 : WA.cell? ⟨gb, 2, none⟩ = some (.bool false) := (blk_cell BXA.out 2).trans rfl
            have z0 : WA.frozen? ⟨gb, 0, none⟩ = false := blk_frozen BXA.out 0
            have z1 : WA.frozen? ⟨gb, 1, none⟩ = false := blk_frozen BXA.out 1
            have z2 : WA.frozen? ⟨gb, 2, none⟩ = false := blk_frozen BXA.out 2
            have e7 := E7.out
            have e8 := E8.out
            have hcv2 : (convert 22 9 (.slice A2 vl.length (c0 - q2))).run Try.prog WA = .ok (.string (strOfNums vl)) WA := HV.out _ (Kd.C_below HC.out HBA.out)
            go_wp2_with ((with_reducible refine gate_builtin (b := .append) (xs := #[.tmp 79, .tmp 81]) rfl ?_); at_builtin; refine Kd.R_append k79 (w0 := w) w.heap.size rfl (.tmp 79) (.tmp 81) 61 79 (.agg #[(.string ⟨#[]⟩), (.string ⟨#[]⟩), (.bool false)]) 40 rfl Try.underlying61 info79 rfl (by decide) (by omega) u4 out (⟨strOfNums key, strOfNums vl, false⟩ : S79) [.string (strOfNums key), .string (strOfNums vl), .bool false] (fun _ => True) (fun _ => False) rfl (by first | (go_simp; done) | (go_simp; rfl)) ?aP (fun _ hk => hk.elim) ?aF ?aO ?aB ?aS ?aL ?_; (case aP => exact k79_mkM _ _ _ (⟨strOfNums key, strOfNums vl, false⟩ : S79)); (case aF => exact (fun _ _ => trivial)); (case aO => exact Kd.R_mono (Kd.R_far (p := ⟨gb, 1, none⟩) (HOA.out) (fun _ hk => hk.2) _) (fun _ _ => trivial)); (case aB => exact (below_set HBA.out GE.out)); (case aS => exact below_size (below_set HBA.out GE.out)); (case aL => omega); intro v5 w5 ho hb hg_ hat; have HO5 := Aside0.mk ho; have HB5 := Aside0.mk hb; clear ho hb hg_ hat)
            go_roundg (l0.length - q3)
            case measure => omega
            case rel => exact ⟨q3, F, out ++ [⟨strOfNums key, strOfNums vl, false⟩], hql2, Nat.le_refl _, rfl, by rw [List.length_append]; simp; omega, ⟨⟨HF2.out, HG.out⟩⟩, HO5, HB5⟩
    · have hltz : ¬ (a : Int) < (l0.length : Int) := by omega
      obtain ⟨hF, hG⟩ := HF.out
      obtain ⟨F, rfl⟩ : ∃ m, F = m + 1 := ⟨F - 1, by omega⟩
      rw [spec_l03Read.all, if_pos (by rw [List.length_drop]; omega)] at hG
      have hr := HR.out
      rw [← hG] at hr
      have hr : ((spec_l03Batch.f K out).bind fun b => some (out, b)) = some (r1, r2) := hr
      obtain ⟨b, hb1, hb2⟩ := Option.bind_eq_some_iff.mp hr
      injection hb2 with hb2
      injection hb2 with e1 e2
      subst e1 e2
      have HBT := Aside0.mk hb1
      obtain ⟨A4, c4, rfl⟩ := Kd.R_slice HO.out
      obtain ⟨_, hc4, hC4⟩ := Kd.R_reads' HO.out
      have HQ := Aside0.mk (spec_l03Batch.calls K A4 c4 out b wr hC4 hc4 hb1)
      clear hG hr hb1 hF HF HR hC4 hc4
      go_wp2_with ((with_reducible refine (HQ.out).mono ?_); rintro e w6 ⟨rfl, hb⟩; have HB6 := Aside0.mk (below_step HB.out hb); have HO6 := Aside0.mk (Kd.R_below HO.out hb); clear hb)
      go_ret2
      exact ⟨_, rfl, HO6.out, HB6.out⟩
def spec_l03Apply.lt (a b : ByteArray) : Bool := Op.bytesLess a.data.toList b.data.toList
def spec_l03Apply.pos (xs : List S51) (key : ByteArray) : Nat := Ythacgkafdjnppaa.OpenOrd.ahead (fun x : S51 => spec_l03Apply.lt x.f0 key) xs
def spec_l03Apply.hit (xs : List S51) (key : ByteArray) : Bool := decide (spec_l03Apply.pos xs key < xs.length) && decide ((xs.getD (spec_l03Apply.pos xs key) z51).f0.data.toList = key.data.toList)
def spec_l03Apply.rest (xs : List S51) (key : ByteArray) : List S51 := if spec_l03Apply.hit xs key = true then xs.drop (spec_l03Apply.pos xs key + 1) else xs.drop (spec_l03Apply.pos xs key)
def spec_l03Apply.step (xs : List S51) (c : S79) : List S51 := if c.f2 = true then xs.take (spec_l03Apply.pos xs c.f0) ++ spec_l03Apply.rest xs c.f0 else xs.take (spec_l03Apply.pos xs c.f0) ++ (⟨c.f0, c.f1⟩ : S51) :: spec_l03Apply.rest xs c.f0
def spec_l03Apply.applied (xs : List S51) (cs : List S79) : List S51 := cs.foldl spec_l03Apply.step xs
theorem spec_l03Apply.applied_succ (xs : List S51) (cs : List S79) (k : Nat) (h : k < cs.length) : spec_l03Apply.applied xs (cs.take (k + 1)) = spec_l03Apply.step (spec_l03Apply.applied xs (cs.take k)) (cs.getD k z79) := by
  unfold spec_l03Apply.applied
  rw [List.take_add_one, List.getElem?_eq_getElem h, List.foldl_append, List.getD_eq_getElem?_getD, List.getElem?_eq_getElem h]
  rfl
theorem spec_l03Apply.step_length (xs : List S51) (c : S79) : (spec_l03Apply.step xs c).length ≤ xs.length + 1 := by
  have hp : spec_l03Apply.pos xs c.f0 ≤ xs.length := Ythacgkafdjnppaa.OpenOrd.ahead_le _ _
  unfold spec_l03Apply.step spec_l03Apply.rest
  by_cases c1 : c.f2 = true
  · rw [if_pos c1]; split <;> simp <;> omega
  · rw [if_neg c1]; split <;> simp <;> omega
theorem spec_l03Apply.applied_length (xs : List S51) (cs : List S79) : (spec_l03Apply.applied xs cs).length ≤ xs.length + cs.length := by
  induction cs generalizing xs with
  | nil => simp [spec_l03Apply.applied]
  | cons c cs ih =>
    have h1 := ih (spec_l03Apply.step xs c)
    have h2 := spec_l03Apply.step_length xs c
    simp only [spec_l03Apply.applied, List.foldl_cons, List.length_cons] at h1 ⊢
    omega
theorem spec_l03Apply.flat : Ythacgkafdjnppaa.OpenFlat.Flat k51 (fun x : S51 => [.string x.f0, .string x.f1]) :=
  ⟨fun _ _ _ _ _ => ⟨fun h => k51_openM h, fun h => by rw [h]; exact k51_mkM _ _ _ _⟩, fun _ => rfl, fun _ v hv => by simp at hv; rcases hv with rfl | rfl <;> rfl⟩
def spec_l03Apply.f (l0 : List (S51)) (l1 : List (S79)) : Option ((List (S51))) := if l0.length ≤ 4096 ∧ l1.length ≤ 4096 then some (spec_l03Apply.applied l0 l1) else none
set_option maxHeartbeats 8000000 in
set_option maxRecDepth 100000 in
theorem spec_l03Apply.calls (A0 : Option Addr) (c0 : Nat) (l0 : List (S51)) (A1 : Option Addr) (c1 : Nat) (l1 : List (S79)) (r : List (S51)) (w : World) (hr0 : Kd.C k51 w A0 l0.length l0) (hc0 : l0.length ≤ c0) (hr1 : Kd.C k79 w A1 l1.length l1) (hc1 : l1.length ≤ c1) (h : spec_l03Apply.f l0 l1 = some r) :
    Calls Try.prog 32 #[.slice A0 l0.length c0, .slice A1 l1.length c1] w fun e w' => ∃ v0_ : Value, e = .returned (v0_) ∧ Kd.R k51 51 w' w.heap.size (fun _ => True) v0_ r ∧ Below w.heap.size w w' := by
  unfold spec_l03Apply.f at h
  have hs : l0.length ≤ 4096 ∧ l1.length ≤ 4096 := Decidable.byContradiction fun hs => by rw [if_neg hs] at h; cases h
  rw [if_pos hs] at h
  injection h with h
  subst h
  obtain ⟨h0, h1⟩ := hs
  have hu := Try.underlying51
  have hu2 := Try.underlying79
  have hlen1 : l1.length ≤ 9223372036854775807 := by omega
  have HC0 := Aside0.mk hr0
  have HC1 := Aside0.mk hr1
  have qg : ∀ (a b : ByteArray) (W : World), (binOp .lss 9 (.string a) (.string b)).run Try.prog W = .ok (.bool (spec_l03Apply.lt a b)) W := fun a b W => by simp [binOp, Op.stringOp, spec_l03Apply.lt, Lib.toList_data]
  clear hr0 hr1
  go_enter Try.func32, Try.ntmps32
  go_wp2_with (first
    | ((with_reducible refine gate_dst (N := 10) rfl ?_); refine Kd.R_lit k51 (w0 := w) w.heap.size 51 ?hg (N := 10) ?hd (xs := []) (inner := []) (ok := fun _ => True) (okp := fun _ => True) ?hr ?hp (fun _ hk => hk) trivial (Below.refl _ _) (Nat.le_refl _) (by simp) ?_; (case hd => rfl); (case hg => rfl); (case hr => first | (go_simp; done) | (go_simp; rfl)); (case hp => exact (Reps.none _ _)); intro v2 w2 ho2 hb2 hg2 hn2; have HO2 := Aside0.mk ho2; have HB2 := Aside0.mk hb2; clear ho2 hb2 hg2 hn2)
    | ((with_reducible refine gate_builtin (b := .append) (xs := #[.tmp 10, .tmp 11]) rfl ?_); at_builtin; refine Kd.R_append_rows k51 (w0 := w) w.heap.size rfl (.tmp 10) (.tmp 11) 27 51 (.agg #[(.string ⟨#[]⟩), (.string ⟨#[]⟩)]) 32 rfl Try.underlying27 info51 rfl (by decide) (by decide) v2 [] l0 A0 l0.length c0 (fun _ => True) (fun _ => False) rfl rfl HO2.out (Kd.C_below HC0.out HB2.out) (fun y cs h => by rw [k51_open h]; exact k51_mkM _ _ _ _) (fun _ h => h.elim) (fun _ _ => trivial) HB2.out HB2.out.size (by simp; omega) ?_; intro v3 w3 ho3 hb3 hg3 hn3; have HO3 := Aside0.mk ho3; have HB3 := Aside0.mk hb3; clear ho3 hb3 hg3 hn3))
  rw [List.nil_append] at HO3
  go_loopg [5, 6] l1.length (fun gg s5 s6 wr => ∃ kk : Nat, kk ≤ l1.length ∧ l1.length - kk ≤ gg ∧ s6 = .int .i64 kk ∧ Aside0 (Kd.R k51 51 wr w.heap.size (fun _ => True) s5 (spec_l03Apply.applied l0 (l1.take kk))) ∧ Aside0 (Below w.heap.size w wr))
  case atStart => exact ⟨0, Nat.zero_le _, by omega, rfl, ⟨HO3.out⟩, HB3⟩
  case round =>
    obtain ⟨kk, hkk, hg, rfl, HO, HB⟩ := hrel
    by_cases hlt : kk < l1.length
    · have hltz : (kk : Int) < (l1.length : Int) := by omega
      have HCr := Aside0.mk (Kd.C_below HC1.out HB.out)
      obtain ⟨ad, e1, hx0, hx1, hx2⟩ := at_T79 HCr.out (kk : Int) (by omega) (by omega)
      cases e1
      have hrd : rd_T79 l1 (kk : Int) = l1.getD kk z79 := by rw [rd_T79, Int.toNat_natCast]
      simp only [Int.toNat_natCast, hrd] at hx0 hx1 hx2
      have HST := Aside0.mk (spec_l03Apply.applied_succ l0 l1 kk hlt)
      have HLN := Aside0.mk (show (spec_l03Apply.applied l0 (l1.take kk)).length ≤ 100000 by have := spec_l03Apply.applied_length l0 (l1.take kk); rw [List.length_take] at this; omega)
      generalize l1.getD kk z79 = x at *
      generalize spec_l03Apply.applied l0 (l1.take kk) = xs at *
      clear hrd
      obtain ⟨x0, x1, x2⟩ := x
      obtain ⟨A4, c4, rfl⟩ := Kd.R_slice HO.out
      obtain ⟨p, hpos⟩ : ∃ p, spec_l03Apply.pos xs x0 = p := ⟨_, rfl⟩
      have hpl : p ≤ xs.length := by rw [← hpos]; exact Ythacgkafdjnppaa.OpenOrd.ahead_le _ _
      have hlnz : (xs.length : Int) ≤ 100000 := by have := HLN.out; omega
      have HBx := Aside0.mk (show (wr.alloc (.cells #[.string x0, .string x1, .bool x2] 79)).heap[wr.heap.size]? = some (.cells #[.string x0, .string x1, .bool x2] 79 (0, 0)) by show (wr.heap.push _)[wr.heap.size]? = _; simp)
      have HOx := Aside0.mk (Kd.R_alloc HO.out (.cells #[.string x0, .string x1, .bool x2] 79))
      have HBb := Aside0.mk (below_alloc HB.out (.cells #[.string x0, .string x1, .bool x2] 79))
      obtain ⟨gb, hgb⟩ : ∃ gb, gb = wr.heap.size := ⟨_, rfl⟩
      have hbg : w.heap.size ≤ gb := by rw [hgb]; exact HB.out.size
      have HNE := Aside0.mk (show ∀ k, (Value.slice A4 xs.length c4).ownBlock = some k → k ≠ gb from fun k hk => by rw [hgb]; exact (Kd.R_elderB HO.out wr.heap.size (Nat.le_refl _)).1 k hk |>.2)
      go_wp2
      rw [← hgb] at HBx ⊢
      generalize wr.alloc (.cells #[.string x0, .string x1, .bool x2] 79) = W1 at *
      clear hgb
      go_loopg [8] xs.length (fun gg s8 w1 => ∃ q : Nat, q ≤ p ∧ xs.length - q ≤ gg ∧ s8 = .int .i64 q ∧ Aside0 (Kd.R k51 51 w1 w.heap.size (fun _ => True) (.slice A4 xs.length c4) xs) ∧ Aside0 (Below w.heap.size w w1) ∧ Aside0 (w1.heap[gb]? = some (.cells #[.string x0, .string x1, .bool x2] 79 (0, 0))))
      case atStart => exact ⟨0, Nat.zero_le _, by omega, rfl, HOx, HBb, HBx⟩
      case round =>
        obtain ⟨q, hq, hqg, rfl, HO5, HB5, HX5⟩ := hrel
        have b0 : wr.cell? ⟨gb, 0, none⟩ = some (.string x0) := (blk_cell HX5.out 0).trans rfl
        by_cases hqn : q < xs.length
        · have hqz : (q : Int) < (xs.length : Int) := by omega
          have hq0 : (0 : Int) ≤ (q : Int) := by omega
          obtain ⟨ad5, e1, hy0, _⟩ := at_T51 (Kd.R_reads' HO5.out).2.2 (q : Int) (by omega) (by omega)
          cases e1
          rw [show rd_T51 xs (q : Int) = xs.getD q z51 by simp [rd_T51]] at hy0
          simp only [Int.toNat_natCast] at hy0
          by_cases hqp : q < p
          · have hlt2 : spec_l03Apply.lt (xs.getD q z51).f0 x0 = true := Ythacgkafdjnppaa.OpenOrd.ahead_lt (fun x : S51 => spec_l03Apply.lt x.f0 x0) z51 xs q (by show q < spec_l03Apply.pos xs x0; omega)
            generalize (xs.getD q z51).f0 = k0 at *
            go_wp2_with fail
            have hlt3 : Op.bytesLess k0.toList x0.toList = true := by rw [Lib.toList_data, Lib.toList_data]; exact hlt2
            refine start_ (n := 14) (S := fun w' => w'.cell? (ad5.add (q * 2)) = some (.string k0) ∧ w'.cell? ⟨gb, 0, none⟩ = some (.string x0)) (ds := []) #[false, false, false, false, false, false, false, false, false, false, false, false, false, false] (by kernel_rfl) rfl rfl ⟨hy0, b0⟩ (fun hHeld => ?_)
            refine pure_ (i := 0) (N := some 23) (v := ?_) (a' := ?_) #[true, false, false, false, false, false, false, false, false, false, false, false, false, false] rfl rfl (by kernel_rfl) (fun _ _ _ h => h) (Or.inl ⟨by rfl, ?_⟩) ?_ ?_
            rotate_left
            · intro w'; go_simp; with_reducible rfl
            rotate_left
            · simp only [Act.put, OpenRow.s1, OpenRow.s2, OpenRow.s3, i64_w, i32_w]; rfl
            refine pure_ (i := 1) (N := some 24) (v := ?_) (a' := ?_) #[true, true, false, false, false, false, false, false, false, false, false, false, false, false] rfl rfl (by kernel_rfl) (fun _ _ _ h => h) (Or.inl ⟨by rfl, ?_⟩) ?_ ?_
            rotate_left
            · intro w'; go_simp; with_reducible rfl
            rotate_left
            · simp only [Act.put, OpenRow.s1, OpenRow.s2, OpenRow.s3, i64_w, i32_w]; rfl
            refine pure_ (i := 2) (N := some 25) (v := ?_) (a' := ?_) #[true, true, true, false, false, false, false, false, false, false, false, false, false, false] rfl rfl (by kernel_rfl) (fun _ _ _ h => h) (Or.inl ⟨by rfl, ?_⟩) ?_ ?_
            rotate_left
            · intro w'; go_simp; with_reducible rfl
            rotate_left
            · simp only [Act.put, OpenRow.s1, OpenRow.s2, OpenRow.s3, i64_w, i32_w]; rfl
            refine pure_ (i := 3) (N := some 26) (v := ?_) (a' := ?_) #[true, true, true, true, false, false, false, false, false, false, false, false, false, false] rfl rfl (by kernel_rfl) (fun _ _ _ h => h) (Or.inl ⟨by rfl, ?_⟩) ?_ ?_
            rotate_left
            · intro w'; go_simp; with_reducible rfl
            rotate_left
            · simp only [Act.put, OpenRow.s1, OpenRow.s2, OpenRow.s3, i64_w, i32_w]; rfl
            refine pure_ (i := 4) (N := some 27) (v := ?_) (a' := ?_) #[true, true, true, true, true, false, false, false, false, false, false, false, false, false] rfl rfl (by kernel_rfl) (fun _ _ _ h => h) (Or.inl ⟨by rfl, ?_⟩) ?_ ?_
            rotate_left
            · intro w'; go_simp; with_reducible rfl
            rotate_left
            · simp only [Act.put, OpenRow.s1, OpenRow.s2, OpenRow.s3, i64_w, i32_w]; rfl
            refine pure_ (i := 5) (N := some 28) (v := ?_) (a' := ?_) #[true, true, true, true, true, true, false, false, false, false, false, false, false, false] rfl rfl (by kernel_rfl) (fun _ _ _ h => h) (Or.inl ⟨by rfl, ?_⟩) ?_ ?_
            rotate_left
            · intro w'; go_simp; with_reducible rfl
            rotate_left
            · simp only [Act.put, OpenRow.s1, OpenRow.s2, OpenRow.s3, i64_w, i32_w]; rfl
            refine pure_ (i := 6) (N := some 29) (v := ?_) (a' := ?_) #[true, true, true, true, true, true, true, false, false, false, false, false, false, false] rfl rfl (by kernel_rfl) (fun _ _ _ h => h) (Or.inl ⟨by rfl, ?_⟩) ?_ ?_
            rotate_left
            · intro w'; go_simp; with_reducible rfl
            rotate_left
            · simp only [Act.put, OpenRow.s1, OpenRow.s2, OpenRow.s3, i64_w, i32_w]; rfl
            refine pure_ (i := 7) (N := some 30) (v := ?_) (a' := ?_) #[true, true, true, true, true, true, true, true, false, false, false, false, false, false] rfl rfl (by kernel_rfl) (fun _ _ _ h => h) (Or.inl ⟨by rfl, ?_⟩) ?_ ?_
            rotate_left
            · intro w'; go_simp; with_reducible rfl
            rotate_left
            · simp only [Act.put, OpenRow.s1, OpenRow.s2, OpenRow.s3, i64_w, i32_w]; rfl
            refine pure_ (i := 8) (N := some 31) (v := ?_) (a' := ?_) #[true, true, true, true, true, true, true, true, true, false, false, false, false, false] rfl rfl (by kernel_rfl) (fun _ _ _ h => h) (Or.inl ⟨by rfl, ?_⟩) ?_ ?_
            rotate_left
            · intro w'; go_simp; with_reducible rfl
            rotate_left
            · simp only [Act.put, OpenRow.s1, OpenRow.s2, OpenRow.s3, i64_w, i32_w]; rfl
            refine pure_ (i := 10) (N := some 33) (v := ?_) (a' := ?_) #[true, true, true, true, true, true, true, true, true, false, true, false, false, false] rfl rfl (by kernel_rfl) (fun _ _ _ h => h) (Or.inl ⟨by rfl, ?_⟩) ?_ ?_
            rotate_left
            · intro w'; go_simp; with_reducible rfl
            rotate_left
            · simp only [Act.put, OpenRow.s1, OpenRow.s2, OpenRow.s3, i64_w, i32_w]; rfl
            refine take_ (i := 9) (N := some 32) (v := ?_) (a' := ?_) #[true, true, true, true, true, true, true, true, true, true, true, false, false, false] rfl rfl (by kernel_rfl) (fun _ _ _ h => h) (Or.inl ⟨by rfl, ?_⟩) hHeld ?_ ?_
            rotate_left
            · rintro w' ⟨s0, s1⟩
              go_simp
              with_reducible rfl
            rotate_left
            · simp only [Act.put, OpenRow.s1, OpenRow.s2, OpenRow.s3, i64_w, i32_w]; rfl
            refine take_ (i := 11) (N := some 34) (v := ?_) (a' := ?_) #[true, true, true, true, true, true, true, true, true, true, true, true, false, false] rfl rfl (by kernel_rfl) (fun _ _ _ h => h) (Or.inl ⟨by rfl, ?_⟩) hHeld ?_ ?_
            rotate_left
            · rintro w' ⟨s0, s1⟩
              go_simp
              with_reducible rfl
            rotate_left
            · simp only [Act.put, OpenRow.s1, OpenRow.s2, OpenRow.s3, i64_w, i32_w]; rfl
            refine pure_ (i := 12) (N := some 35) (v := ?_) (a' := ?_) #[true, true, true, true, true, true, true, true, true, true, true, true, true, false] rfl rfl (by kernel_rfl) (fun _ _ _ h => h) (Or.inl ⟨by rfl, ?_⟩) ?_ ?_
            rotate_left
            · intro w'; go_simp; with_reducible rfl
            rotate_left
            · simp only [Act.put, OpenRow.s1, OpenRow.s2, OpenRow.s3, i64_w, i32_w]; rfl
            refine pure_ (i := 13) (N := some 36) (v := ?_) (a' := ?_) #[true, true, true, true, true, true, true, true, true, true, true, true, true, true] rfl rfl (by kernel_rfl) (fun _ _ _ h => h) (Or.inl ⟨by rfl, ?_⟩) ?_ ?_
            rotate_left
            · intro w'; go_simp; with_reducible rfl
            rotate_left
            · simp only [Act.put, OpenRow.s1, OpenRow.s2, OpenRow.s3, i64_w, i32_w]; rfl
            refine done_ (by kernel_rfl) ?_
            go_wp2
            go_roundg (xs.length - (q + 1))
            case measure => omega
            case rel => exact ⟨q + 1, by omega, Nat.le_refl _, by go_num, ⟨Kd.R_drew HO5.out⟩, ⟨below_drew1 HB5.out⟩, ⟨HX5.out⟩⟩
          · obtain rfl : q = p := by omega
            have hlt2 : spec_l03Apply.lt (xs.getD q z51).f0 x0 = false := by rw [← hpos]; exact Ythacgkafdjnppaa.OpenOrd.ahead_at (fun x : S51 => spec_l03Apply.lt x.f0 x0) z51 xs (by show spec_l03Apply.pos xs x0 < xs.length; omega)
            obtain ⟨k0, hk0⟩ : ∃ k0, k0 = (xs.getD q z51).f0 := ⟨_, rfl⟩
            rw [← hk0] at hy0 hlt2
            have HK0 := Aside0.mk hk0
            clear hk0
            have hlt3 : Op.bytesLess k0.toList x0.toList = false := by rw [Lib.toList_data, Lib.toList_data]; exact hlt2
            cases x2 with
            | true =>
              by_cases hkx : k0.data.toList = x0.data.toList
              · skip
                go_wp2_with fail
                refine start_ (n := 14) (S := fun w' => w'.cell? (ad5.add (q * 2)) = some (.string k0) ∧ w'.cell? ⟨gb, 0, none⟩ = some (.string x0)) (ds := []) #[false, false, false, false, false, false, false, false, false, false, false, false, false, false] (by kernel_rfl) rfl rfl ⟨hy0, b0⟩ (fun hHeld => ?_)
                refine pure_ (i := 0) (N := some 23) (v := ?_) (a' := ?_) #[true, false, false, false, false, false, false, false, false, false, false, false, false, false] rfl rfl (by kernel_rfl) (fun _ _ _ h => h) (Or.inl ⟨by rfl, ?_⟩) ?_ ?_
                rotate_left
                · intro w'; go_simp; with_reducible rfl
                rotate_left
                · simp only [Act.put, OpenRow.s1, OpenRow.s2, OpenRow.s3, i64_w, i32_w]; rfl
                refine pure_ (i := 1) (N := some 24) (v := ?_) (a' := ?_) #[true, true, false, false, false, false, false, false, false, false, false, false, false, false] rfl rfl (by kernel_rfl) (fun _ _ _ h => h) (Or.inl ⟨by rfl, ?_⟩) ?_ ?_
                rotate_left
                · intro w'; go_simp; with_reducible rfl
                rotate_left
                · simp only [Act.put, OpenRow.s1, OpenRow.s2, OpenRow.s3, i64_w, i32_w]; rfl
                refine pure_ (i := 2) (N := some 25) (v := ?_) (a' := ?_) #[true, true, true, false, false, false, false, false, false, false, false, false, false, false] rfl rfl (by kernel_rfl) (fun _ _ _ h => h) (Or.inl ⟨by rfl, ?_⟩) ?_ ?_
                rotate_left
                · intro w'; go_simp; with_reducible rfl
                rotate_left
                · simp only [Act.put, OpenRow.s1, OpenRow.s2, OpenRow.s3, i64_w, i32_w]; rfl
                refine pure_ (i := 3) (N := some 26) (v := ?_) (a' := ?_) #[true, true, true, true, false, false, false, false, false, false, false, false, false, false] rfl rfl (by kernel_rfl) (fun _ _ _ h => h) (Or.inl ⟨by rfl, ?_⟩) ?_ ?_
                rotate_left
                · intro w'; go_simp; with_reducible rfl
                rotate_left
                · simp only [Act.put, OpenRow.s1, OpenRow.s2, OpenRow.s3, i64_w, i32_w]; rfl
                refine pure_ (i := 4) (N := some 27) (v := ?_) (a' := ?_) #[true, true, true, true, true, false, false, false, false, false, false, false, false, false] rfl rfl (by kernel_rfl) (fun _ _ _ h => h) (Or.inl ⟨by rfl, ?_⟩) ?_ ?_
                rotate_left
                · intro w'; go_simp; with_reducible rfl
                rotate_left
                · simp only [Act.put, OpenRow.s1, OpenRow.s2, OpenRow.s3, i64_w, i32_w]; rfl
                refine pure_ (i := 5) (N := some 28) (v := ?_) (a' := ?_) #[true, true, true, true, true, true, false, false, false, false, false, false, false, false] rfl rfl (by kernel_rfl) (fun _ _ _ h => h) (Or.inl ⟨by rfl, ?_⟩) ?_ ?_
                rotate_left
                · intro w'; go_simp; with_reducible rfl
                rotate_left
                · simp only [Act.put, OpenRow.s1, OpenRow.s2, OpenRow.s3, i64_w, i32_w]; rfl
                refine pure_ (i := 6) (N := some 29) (v := ?_) (a' := ?_) #[true, true, true, true, true, true, true, false, false, false, false, false, false, false] rfl rfl (by kernel_rfl) (fun _ _ _ h => h) (Or.inl ⟨by rfl, ?_⟩) ?_ ?_
                rotate_left
                · intro w'; go_simp; with_reducible rfl
                rotate_left
                · simp only [Act.put, OpenRow.s1, OpenRow.s2, OpenRow.s3, i64_w, i32_w]; rfl
                refine pure_ (i := 7) (N := some 30) (v := ?_) (a' := ?_) #[true, true, true, true, true, true, true, true, false, false, false, false, false, false] rfl rfl (by kernel_rfl) (fun _ _ _ h => h) (Or.inl ⟨by rfl, ?_⟩) ?_ ?_
                rotate_left
                · intro w'; go_simp; with_reducible rfl
                rotate_left
                · simp only [Act.put, OpenRow.s1, OpenRow.s2, OpenRow.s3, i64_w, i32_w]; rfl
                refine pure_ (i := 8) (N := some 31) (v := ?_) (a' := ?_) #[true, true, true, true, true, true, true, true, true, false, false, false, false, false] rfl rfl (by kernel_rfl) (fun _ _ _ h => h) (Or.inl ⟨by rfl, ?_⟩) ?_ ?_
                rotate_left
                · intro w'; go_simp; with_reducible rfl
                rotate_left
                · simp only [Act.put, OpenRow.s1, OpenRow.s2, OpenRow.s3, i64_w, i32_w]; rfl
                refine pure_ (i := 10) (N := some 33) (v := ?_) (a' := ?_) #[true, true, true, true, true, true, true, true, true, false, true, false, false, false] rfl rfl (by kernel_rfl) (fun _ _ _ h => h) (Or.inl ⟨by rfl, ?_⟩) ?_ ?_
                rotate_left
                · intro w'; go_simp; with_reducible rfl
                rotate_left
                · simp only [Act.put, OpenRow.s1, OpenRow.s2, OpenRow.s3, i64_w, i32_w]; rfl
                refine take_ (i := 9) (N := some 32) (v := ?_) (a' := ?_) #[true, true, true, true, true, true, true, true, true, true, true, false, false, false] rfl rfl (by kernel_rfl) (fun _ _ _ h => h) (Or.inl ⟨by rfl, ?_⟩) hHeld ?_ ?_
                rotate_left
                · rintro w' ⟨s0, s1⟩
                  go_simp
                  with_reducible rfl
                rotate_left
                · simp only [Act.put, OpenRow.s1, OpenRow.s2, OpenRow.s3, i64_w, i32_w]; rfl
                refine take_ (i := 11) (N := some 34) (v := ?_) (a' := ?_) #[true, true, true, true, true, true, true, true, true, true, true, true, false, false] rfl rfl (by kernel_rfl) (fun _ _ _ h => h) (Or.inl ⟨by rfl, ?_⟩) hHeld ?_ ?_
                rotate_left
                · rintro w' ⟨s0, s1⟩
                  go_simp
                  with_reducible rfl
                rotate_left
                · simp only [Act.put, OpenRow.s1, OpenRow.s2, OpenRow.s3, i64_w, i32_w]; rfl
                refine pure_ (i := 12) (N := some 35) (v := ?_) (a' := ?_) #[true, true, true, true, true, true, true, true, true, true, true, true, true, false] rfl rfl (by kernel_rfl) (fun _ _ _ h => h) (Or.inl ⟨by rfl, ?_⟩) ?_ ?_
                rotate_left
                · intro w'; go_simp; with_reducible rfl
                rotate_left
                · simp only [Act.put, OpenRow.s1, OpenRow.s2, OpenRow.s3, i64_w, i32_w]; rfl
                refine pure_ (i := 13) (N := some 36) (v := ?_) (a' := ?_) #[true, true, true, true, true, true, true, true, true, true, true, true, true, true] rfl rfl (by kernel_rfl) (fun _ _ _ h => h) (Or.inl ⟨by rfl, ?_⟩) ?_ ?_
                rotate_left
                · intro w'; go_simp; with_reducible rfl
                rotate_left
                · simp only [Act.put, OpenRow.s1, OpenRow.s2, OpenRow.s3, i64_w, i32_w]; rfl
                refine done_ (by kernel_rfl) ?_
                obtain ⟨Wc, hWc⟩ : ∃ Wc, Wc = wr.drew := ⟨_, rfl⟩
                rw [← hWc]
                have HOc := Aside0.mk (show Kd.R k51 51 Wc w.heap.size (fun _ => True) (.slice (some ad5) xs.length c4) xs by rw [hWc]; exact Kd.R_drew HO5.out)
                have HBc := Aside0.mk (show Below w.heap.size w Wc by rw [hWc]; exact below_drew1 HB5.out)
                have HXc := Aside0.mk (show Wc.heap[gb]? = some (.cells #[.string x0, .string x1, .bool true] 79 (0, 0)) by rw [hWc]; exact HX5.out)
                clear hWc
                have hlc4 : xs.length ≤ c4 := (Kd.R_reads' HOc.out).2.1
                obtain ⟨ys, hys⟩ : ∃ ys, ys = xs.drop q := ⟨_, rfl⟩
                have hyl : ys.length = xs.length - q := by rw [hys, List.length_drop]
                obtain ⟨AD, hAD⟩ : ∃ AD, (if c4 = q then (some ad5) else ((some ad5) : Option Addr).map (·.add (q * 2))) = AD := ⟨_, rfl⟩
                have hcD := fun W => Ythacgkafdjnppaa.OpenFlat.cut_any_l (P := Try.prog) 27 51 rfl rfl (sz := 2) rfl (some ad5) xs.length c4 W .i64 q (q : Int) rfl hpl
                rw [hAD, ← hyl] at hcD
                have hcF := fun W => Ythacgkafdjnppaa.OpenFlat.cut_any_h (P := Try.prog) 27 51 rfl rfl (sz := 2) rfl (some ad5) xs.length c4 W .i64 q (q : Int) rfl (by omega)
                have HCD := Aside0.mk (fun W (h : Kd.C k51 W (some ad5) xs.length xs) => show Kd.C k51 W AD ys.length ys by have := Kd.C_drop h hpl hlc4; rw [← hAD, hys]; exact this)
                have HYL := Aside0.mk hyl
                have HYS := Aside0.mk hys
                clear hAD hys hyl
                go_wp2_with (first
                  | ((with_reducible refine gate_dst (N := 39) rfl ?_); refine Kd.R_lit k51 (w0 := Wc) Wc.heap.size 51 ?hg (N := 39) ?hd (xs := []) (inner := []) (ok := fun _ => True) (okp := fun _ => True) ?hr ?hp (fun _ hk => hk) trivial (Below.refl _ _) (Nat.le_refl _) (by simp) ?_; (case hd => rfl); (case hg => rfl); (case hr => first | (go_simp; done) | (go_simp; rfl)); (case hp => exact (Reps.none _ _)); intro v39 w39 ho hb hg_ hn_; have HO39 := Aside0.mk ho; have HB39 := Aside0.mk hb; clear ho hb hg_ hn_)
                  | ((with_reducible refine gate_builtin (b := .append) (xs := #[.tmp 39, .tmp 42]) rfl ?_); at_builtin; refine Kd.R_append_rows k51 (w0 := Wc) Wc.heap.size rfl (.tmp 39) (.tmp 42) 27 51 (.agg #[(.string ⟨#[]⟩), (.string ⟨#[]⟩)]) 32 rfl Try.underlying27 info51 rfl (by decide) (by decide) v39 [] ys AD ys.length (c4 - q) (fun _ => True) (fun _ => False) rfl rfl HO39.out (HCD.out _ (Kd.R_reads' (Kd.R_below HOc.out HB39.out)).2.2) (fun y cs h => by rw [k51_open h]; exact k51_mkM _ _ _ _) (fun _ h => h.elim) (fun _ _ => trivial) HB39.out HB39.out.size (by have := HLN.out; have := HYL.out; simp; omega) ?_; intro v43 w43 ho hb hg_ hn_; obtain ⟨A9, c9, rfl⟩ := Kd.R_slice ho; have HO43 := Aside0.mk ho; have HB43 := Aside0.mk hb; clear ho hb hg_ hn_))
                have HO4 := Aside0.mk (show Kd.R k51 51 w43 Wc.heap.size (fun _ => True) (.slice A9 ys.length c9) ys from HO43.out)
                have HOd := Aside0.mk (Kd.R_below HOc.out HB43.out)
                have HBd := Aside0.mk (below_step HBc.out HB43.out)
                have HXd := Aside0.mk ((HB43.out.block gb (blk_lt HXc.out)).trans HXc.out)
                have b10 : w43.cell? ⟨gb, 0, none⟩ = some (.string x0) := (blk_cell HXd.out 0).trans rfl
                have HBLK := Aside0.mk (show ∀ k k', (Value.slice A9 ys.length c9).ownBlock = some k → (Value.slice (some ad5) q c4).ownBlock = some k' → k ≠ k' from fun k k' hk hk' => by
                  have h1 := Kd.R_base HO43.out k hk
                  have h2 := ((Kd.R_bound HOc.out).1 k' (by rw [Ythacgkafdjnppaa.OpenFlat.ownBlock_slice (some ad5) xs.length c4 q c4]; exact hk')).2.2.1
                  omega)
                have hyp : 0 < ys.length := by have := HYL.out; omega
                have hypz : (0 : Int) < (ys.length : Int) := by omega
                obtain ⟨ad9, e1, hz0, _⟩ := at_T51 (Kd.R_reads' HO4.out).2.2 (0 : Int) (by omega) (by omega)
                cases e1
                have hrd : (rd_T51 ys (0 : Int)).f0 = k0 := by
                  rw [HK0.out, HYS.out, rd_T51, List.getD_eq_getElem?_getD, List.getD_eq_getElem?_getD, List.getElem?_drop]; rfl
                rw [hrd] at hz0
                have ha0 : ad9.add ((0 : Int).toNat * 2) = ad9 := by show ad9.add 0 = ad9; unfold Addr.add; simp
                rw [ha0] at hz0
                clear hrd ha0
                have hkb : (k0.toList == x0.toList) = true := by rw [Lib.toList_data, Lib.toList_data]; exact beq_iff_eq.mpr hkx
                refine start_ (n := 12) (S := fun w' => w'.cell? ad9 = some (.string k0) ∧ w'.cell? ⟨gb, 0, none⟩ = some (.string x0)) (ds := []) #[false, false, false, false, false, false, false, false, false, false, false, false] (by kernel_rfl) rfl rfl ⟨hz0, b10⟩ (fun hHeld => ?_)
                refine pure_ (i := 0) (N := some 44) (v := ?_) (a' := ?_) #[true, false, false, false, false, false, false, false, false, false, false, false] rfl rfl (by kernel_rfl) (fun _ _ _ h => h) (Or.inl ⟨by rfl, ?_⟩) ?_ ?_
                rotate_left
                · intro w'; go_simp; with_reducible rfl
                rotate_left
                · simp only [Act.put, OpenRow.s1, OpenRow.s2, OpenRow.s3, i64_w, i32_w]; rfl
                refine pure_ (i := 1) (N := some 45) (v := ?_) (a' := ?_) #[true, true, false, false, false, false, false, false, false, false, false, false] rfl rfl (by kernel_rfl) (fun _ _ _ h => h) (Or.inl ⟨by rfl, ?_⟩) ?_ ?_
                rotate_left
                · intro w'; go_simp; with_reducible rfl
                rotate_left
                · simp only [Act.put, OpenRow.s1, OpenRow.s2, OpenRow.s3, i64_w, i32_w]; rfl
                refine pure_ (i := 2) (N := some 46) (v := ?_) (a' := ?_) #[true, true, true, false, false, false, false, false, false, false, false, false] rfl rfl (by kernel_rfl) (fun _ _ _ h => h) (Or.inl ⟨by rfl, ?_⟩) ?_ ?_
                rotate_left
                · intro w'; go_simp; with_reducible rfl
                rotate_left
                · simp only [Act.put, OpenRow.s1, OpenRow.s2, OpenRow.s3, i64_w, i32_w]; rfl
                refine pure_ (i := 3) (N := some 47) (v := ?_) (a' := ?_) #[true, true, true, true, false, false, false, false, false, false, false, false] rfl rfl (by kernel_rfl) (fun _ _ _ h => h) (Or.inl ⟨by rfl, ?_⟩) ?_ ?_
                rotate_left
                · intro w'; go_simp; with_reducible rfl
                rotate_left
                · simp only [Act.put, OpenRow.s1, OpenRow.s2, OpenRow.s3, i64_w, i32_w]; rfl
                refine pure_ (i := 4) (N := some 48) (v := ?_) (a' := ?_) #[true, true, true, true, true, false, false, false, false, false, false, false] rfl rfl (by kernel_rfl) (fun _ _ _ h => h) (Or.inl ⟨by rfl, ?_⟩) ?_ ?_
                rotate_left
                · intro w'; go_simp; with_reducible rfl
                rotate_left
                · simp only [Act.put, OpenRow.s1, OpenRow.s2, OpenRow.s3, i64_w, i32_w]; rfl
                refine pure_ (i := 5) (N := some 49) (v := ?_) (a' := ?_) #[true, true, true, true, true, true, false, false, false, false, false, false] rfl rfl (by kernel_rfl) (fun _ _ _ h => h) (Or.inl ⟨by rfl, ?_⟩) ?_ ?_
                rotate_left
                · intro w'; go_simp; with_reducible rfl
                rotate_left
                · simp only [Act.put, OpenRow.s1, OpenRow.s2, OpenRow.s3, i64_w, i32_w]; rfl
                refine pure_ (i := 6) (N := some 50) (v := ?_) (a' := ?_) #[true, true, true, true, true, true, true, false, false, false, false, false] rfl rfl (by kernel_rfl) (fun _ _ _ h => h) (Or.inl ⟨by rfl, ?_⟩) ?_ ?_
                rotate_left
                · intro w'; go_simp; with_reducible rfl
                rotate_left
                · simp only [Act.put, OpenRow.s1, OpenRow.s2, OpenRow.s3, i64_w, i32_w]; rfl
                refine pure_ (i := 8) (N := some 52) (v := ?_) (a' := ?_) #[true, true, true, true, true, true, true, false, true, false, false, false] rfl rfl (by kernel_rfl) (fun _ _ _ h => h) (Or.inl ⟨by rfl, ?_⟩) ?_ ?_
                rotate_left
                · intro w'; go_simp; with_reducible rfl
                rotate_left
                · simp only [Act.put, OpenRow.s1, OpenRow.s2, OpenRow.s3, i64_w, i32_w]; rfl
                refine take_ (i := 7) (N := some 51) (v := ?_) (a' := ?_) #[true, true, true, true, true, true, true, true, true, false, false, false] rfl rfl (by kernel_rfl) (fun _ _ _ h => h) (Or.inl ⟨by rfl, ?_⟩) hHeld ?_ ?_
                rotate_left
                · rintro w' ⟨s0, s1⟩
                  go_simp
                  with_reducible rfl
                rotate_left
                · simp only [Act.put, OpenRow.s1, OpenRow.s2, OpenRow.s3, i64_w, i32_w]; rfl
                refine take_ (i := 9) (N := some 53) (v := ?_) (a' := ?_) #[true, true, true, true, true, true, true, true, true, true, false, false] rfl rfl (by kernel_rfl) (fun _ _ _ h => h) (Or.inl ⟨by rfl, ?_⟩) hHeld ?_ ?_
                rotate_left
                · rintro w' ⟨s0, s1⟩
                  go_simp
                  with_reducible rfl
                rotate_left
                · simp only [Act.put, OpenRow.s1, OpenRow.s2, OpenRow.s3, i64_w, i32_w]; rfl
                refine pure_ (i := 10) (N := some 54) (v := ?_) (a' := ?_) #[true, true, true, true, true, true, true, true, true, true, true, false] rfl rfl (by kernel_rfl) (fun _ _ _ h => h) (Or.inl ⟨by rfl, ?_⟩) ?_ ?_
                rotate_left
                · intro w'; go_simp; with_reducible rfl
                rotate_left
                · simp only [Act.put, OpenRow.s1, OpenRow.s2, OpenRow.s3, i64_w, i32_w]; rfl
                refine pure_ (i := 11) (N := some 55) (v := ?_) (a' := ?_) #[true, true, true, true, true, true, true, true, true, true, true, true] rfl rfl (by kernel_rfl) (fun _ _ _ h => h) (Or.inl ⟨by rfl, ?_⟩) ?_ ?_
                rotate_left
                · intro w'; go_simp; with_reducible rfl
                rotate_left
                · simp only [Act.put, OpenRow.s1, OpenRow.s2, OpenRow.s3, i64_w, i32_w]; rfl
                refine done_ (by kernel_rfl) ?_
                have hhit : spec_l03Apply.hit xs x0 = true := by unfold spec_l03Apply.hit; rw [hpos, decide_eq_true (by omega), Bool.true_and]; exact decide_eq_true (by rw [← HK0.out]; exact hkx)
                have HFIN := Aside0.mk (show spec_l03Apply.step xs (⟨x0, x1, true⟩ : S79) = (xs.take q) ++ (ys.drop 1) by rw [spec_l03Apply.step, if_pos rfl, spec_l03Apply.rest, if_pos hhit, hpos, HYS.out, List.drop_drop] <;> simp [List.append_assoc])
                obtain ⟨Wd, hWd⟩ : ∃ Wd, Wd = w43.drew := ⟨_, rfl⟩
                rw [← hWd]
                have HT := Aside0.mk (show Kd.R k51 51 Wd w.heap.size (fun _ => True) (.slice (some ad5) q c4) (xs.take q) by rw [hWd]; exact Kd.R_take (Kd.R_drew HOd.out) hpl)
                have HBe := Aside0.mk (show Below w.heap.size w Wd by rw [hWd]; exact below_drew1 HBd.out)
                have HO9 := Aside0.mk (show Kd.R k51 51 Wd Wc.heap.size (fun _ => True) (.slice (some ad9) ys.length c9) ys by rw [hWd]; exact Kd.R_drew HO4.out)
                have HXe : Wd.heap[gb]? = some (.cells #[.string x0, .string x1, .bool true] 79 (0, 0)) := by rw [hWd]; exact HXd.out
                have u0 : Wd.cell? ⟨gb, 0, none⟩ = some (.string x0) := (blk_cell HXe 0).trans rfl
                have u1 : Wd.cell? ⟨gb, 1, none⟩ = some (.string x1) := (blk_cell HXe 1).trans rfl
                have u2 : Wd.cell? ⟨gb, 2, none⟩ = some (.bool true) := (blk_cell HXe 2).trans rfl
                have HYC := Aside0.mk (Kd.R_reads' HO9.out).2.1
                clear hWd hhit HXe
                have hlc9 := HYC.out
                obtain ⟨AE, hAE⟩ : ∃ AE, (if c9 = 1 then (some ad9) else ((some ad9) : Option Addr).map (·.add (1 * 2))) = AE := ⟨_, rfl⟩
                have hcE := fun W => Ythacgkafdjnppaa.OpenFlat.cut_any_l (P := Try.prog) 27 51 rfl rfl (sz := 2) rfl (some ad9) ys.length c9 W .i64 1 (1 : Int) rfl hyp
                rw [hAE] at hcE
                have HCE := Aside0.mk (fun W (h : Kd.C k51 W (some ad9) ys.length ys) => show Kd.C k51 W AE (ys.length - 1) (ys.drop 1) by have := Kd.C_drop h hyp hlc9; rw [List.length_drop] at this; rw [← hAE]; exact this)
                clear hAE hlc9
                go_wp2_with (first
                  | ((with_reducible refine gate_builtin (b := .append) (xs := #[.tmp 72, .tmp 73]) rfl ?_); at_builtin; refine Kd.R_append_rows k51 (w0 := w) w.heap.size rfl (.tmp 72) (.tmp 73) 27 51 (.agg #[(.string ⟨#[]⟩), (.string ⟨#[]⟩)]) 32 rfl Try.underlying27 info51 rfl (by decide) (by decide) (.slice (some ad5) q c4) (xs.take q) (ys.drop 1) AE (ys.length - 1) (c9 - 1) (fun _ => True) (fun _ => False) rfl rfl HT.out (HCE.out _ (Kd.R_reads' HO9.out).2.2) (fun y cs h => by rw [k51_open h]; exact k51_mkM _ _ _ _) (fun _ h => h.elim) (fun _ _ => trivial) HBe.out HBe.out.size (by have := HLN.out; have := HYL.out; simp; omega) ?_; intro v74 w74 ho hb hg_ hn_; have HO74 := Aside0.mk ho; have HB74 := Aside0.mk hb; clear ho hb hg_ hn_))
                go_roundg (l1.length - (kk + 1))
                case measure => omega
                case rel => exact ⟨kk + 1, by omega, by omega, by go_num, ⟨by rw [HST.out, HFIN.out]; exact HO74.out⟩, HB74⟩
              · skip
                go_wp2_with fail
                refine start_ (n := 14) (S := fun w' => w'.cell? (ad5.add (q * 2)) = some (.string k0) ∧ w'.cell? ⟨gb, 0, none⟩ = some (.string x0)) (ds := []) #[false, false, false, false, false, false, false, false, false, false, false, false, false, false] (by kernel_rfl) rfl rfl ⟨hy0, b0⟩ (fun hHeld => ?_)
                refine pure_ (i := 0) (N := some 23) (v := ?_) (a' := ?_) #[true, false, false, false, false, false, false, false, false, false, false, false, false, false] rfl rfl (by kernel_rfl) (fun _ _ _ h => h) (Or.inl ⟨by rfl, ?_⟩) ?_ ?_
                rotate_left
                · intro w'; go_simp; with_reducible rfl
                rotate_left
                · simp only [Act.put, OpenRow.s1, OpenRow.s2, OpenRow.s3, i64_w, i32_w]; rfl
                refine pure_ (i := 1) (N := some 24) (v := ?_) (a' := ?_) #[true, true, false, false, false, false, false, false, false, false, false, false, false, false] rfl rfl (by kernel_rfl) (fun _ _ _ h => h) (Or.inl ⟨by rfl, ?_⟩) ?_ ?_
                rotate_left
                · intro w'; go_simp; with_reducible rfl
                rotate_left
                · simp only [Act.put, OpenRow.s1, OpenRow.s2, OpenRow.s3, i64_w, i32_w]; rfl
                refine pure_ (i := 2) (N := some 25) (v := ?_) (a' := ?_) #[true, true, true, false, false, false, false, false, false, false, false, false, false, false] rfl rfl (by kernel_rfl) (fun _ _ _ h => h) (Or.inl ⟨by rfl, ?_⟩) ?_ ?_
                rotate_left
                · intro w'; go_simp; with_reducible rfl
                rotate_left
                · simp only [Act.put, OpenRow.s1, OpenRow.s2, OpenRow.s3, i64_w, i32_w]; rfl
                refine pure_ (i := 3) (N := some 26) (v := ?_) (a' := ?_) #[true, true, true, true, false, false, false, false, false, false, false, false, false, false] rfl rfl (by kernel_rfl) (fun _ _ _ h => h) (Or.inl ⟨by rfl, ?_⟩) ?_ ?_
                rotate_left
                · intro w'; go_simp; with_reducible rfl
                rotate_left
                · simp only [Act.put, OpenRow.s1, OpenRow.s2, OpenRow.s3, i64_w, i32_w]; rfl
                refine pure_ (i := 4) (N := some 27) (v := ?_) (a' := ?_) #[true, true, true, true, true, false, false, false, false, false, false, false, false, false] rfl rfl (by kernel_rfl) (fun _ _ _ h => h) (Or.inl ⟨by rfl, ?_⟩) ?_ ?_
                rotate_left
                · intro w'; go_simp; with_reducible rfl
                rotate_left
                · simp only [Act.put, OpenRow.s1, OpenRow.s2, OpenRow.s3, i64_w, i32_w]; rfl
                refine pure_ (i := 5) (N := some 28) (v := ?_) (a' := ?_) #[true, true, true, true, true, true, false, false, false, false, false, false, false, false] rfl rfl (by kernel_rfl) (fun _ _ _ h => h) (Or.inl ⟨by rfl, ?_⟩) ?_ ?_
                rotate_left
                · intro w'; go_simp; with_reducible rfl
                rotate_left
                · simp only [Act.put, OpenRow.s1, OpenRow.s2, OpenRow.s3, i64_w, i32_w]; rfl
                refine pure_ (i := 6) (N := some 29) (v := ?_) (a' := ?_) #[true, true, true, true, true, true, true, false, false, false, false, false, false, false] rfl rfl (by kernel_rfl) (fun _ _ _ h => h) (Or.inl ⟨by rfl, ?_⟩) ?_ ?_
                rotate_left
                · intro w'; go_simp; with_reducible rfl
                rotate_left
                · simp only [Act.put, OpenRow.s1, OpenRow.s2, OpenRow.s3, i64_w, i32_w]; rfl
                refine pure_ (i := 7) (N := some 30) (v := ?_) (a' := ?_) #[true, true, true, true, true, true, true, true, false, false, false, false, false, false] rfl rfl (by kernel_rfl) (fun _ _ _ h => h) (Or.inl ⟨by rfl, ?_⟩) ?_ ?_
                rotate_left
                · intro w'; go_simp; with_reducible rfl
                rotate_left
                · simp only [Act.put, OpenRow.s1, OpenRow.s2, OpenRow.s3, i64_w, i32_w]; rfl
                refine pure_ (i := 8) (N := some 31) (v := ?_) (a' := ?_) #[true, true, true, true, true, true, true, true, true, false, false, false, false, false] rfl rfl (by kernel_rfl) (fun _ _ _ h => h) (Or.inl ⟨by rfl, ?_⟩) ?_ ?_
                rotate_left
                · intro w'; go_simp; with_reducible rfl
                rotate_left
                · simp only [Act.put, OpenRow.s1, OpenRow.s2, OpenRow.s3, i64_w, i32_w]; rfl
                refine pure_ (i := 10) (N := some 33) (v := ?_) (a' := ?_) #[true, true, true, true, true, true, true, true, true, false, true, false, false, false] rfl rfl (by kernel_rfl) (fun _ _ _ h => h) (Or.inl ⟨by rfl, ?_⟩) ?_ ?_
                rotate_left
                · intro w'; go_simp; with_reducible rfl
                rotate_left
                · simp only [Act.put, OpenRow.s1, OpenRow.s2, OpenRow.s3, i64_w, i32_w]; rfl
                refine take_ (i := 9) (N := some 32) (v := ?_) (a' := ?_) #[true, true, true, true, true, true, true, true, true, true, true, false, false, false] rfl rfl (by kernel_rfl) (fun _ _ _ h => h) (Or.inl ⟨by rfl, ?_⟩) hHeld ?_ ?_
                rotate_left
                · rintro w' ⟨s0, s1⟩
                  go_simp
                  with_reducible rfl
                rotate_left
                · simp only [Act.put, OpenRow.s1, OpenRow.s2, OpenRow.s3, i64_w, i32_w]; rfl
                refine take_ (i := 11) (N := some 34) (v := ?_) (a' := ?_) #[true, true, true, true, true, true, true, true, true, true, true, true, false, false] rfl rfl (by kernel_rfl) (fun _ _ _ h => h) (Or.inl ⟨by rfl, ?_⟩) hHeld ?_ ?_
                rotate_left
                · rintro w' ⟨s0, s1⟩
                  go_simp
                  with_reducible rfl
                rotate_left
                · simp only [Act.put, OpenRow.s1, OpenRow.s2, OpenRow.s3, i64_w, i32_w]; rfl
                refine pure_ (i := 12) (N := some 35) (v := ?_) (a' := ?_) #[true, true, true, true, true, true, true, true, true, true, true, true, true, false] rfl rfl (by kernel_rfl) (fun _ _ _ h => h) (Or.inl ⟨by rfl, ?_⟩) ?_ ?_
                rotate_left
                · intro w'; go_simp; with_reducible rfl
                rotate_left
                · simp only [Act.put, OpenRow.s1, OpenRow.s2, OpenRow.s3, i64_w, i32_w]; rfl
                refine pure_ (i := 13) (N := some 36) (v := ?_) (a' := ?_) #[true, true, true, true, true, true, true, true, true, true, true, true, true, true] rfl rfl (by kernel_rfl) (fun _ _ _ h => h) (Or.inl ⟨by rfl, ?_⟩) ?_ ?_
                rotate_left
                · intro w'; go_simp; with_reducible rfl
                rotate_left
                · simp only [Act.put, OpenRow.s1, OpenRow.s2, OpenRow.s3, i64_w, i32_w]; rfl
                refine done_ (by kernel_rfl) ?_
                obtain ⟨Wc, hWc⟩ : ∃ Wc, Wc = wr.drew := ⟨_, rfl⟩
                rw [← hWc]
                have HOc := Aside0.mk (show Kd.R k51 51 Wc w.heap.size (fun _ => True) (.slice (some ad5) xs.length c4) xs by rw [hWc]; exact Kd.R_drew HO5.out)
                have HBc := Aside0.mk (show Below w.heap.size w Wc by rw [hWc]; exact below_drew1 HB5.out)
                have HXc := Aside0.mk (show Wc.heap[gb]? = some (.cells #[.string x0, .string x1, .bool true] 79 (0, 0)) by rw [hWc]; exact HX5.out)
                clear hWc
                have hlc4 : xs.length ≤ c4 := (Kd.R_reads' HOc.out).2.1
                obtain ⟨ys, hys⟩ : ∃ ys, ys = xs.drop q := ⟨_, rfl⟩
                have hyl : ys.length = xs.length - q := by rw [hys, List.length_drop]
                obtain ⟨AD, hAD⟩ : ∃ AD, (if c4 = q then (some ad5) else ((some ad5) : Option Addr).map (·.add (q * 2))) = AD := ⟨_, rfl⟩
                have hcD := fun W => Ythacgkafdjnppaa.OpenFlat.cut_any_l (P := Try.prog) 27 51 rfl rfl (sz := 2) rfl (some ad5) xs.length c4 W .i64 q (q : Int) rfl hpl
                rw [hAD, ← hyl] at hcD
                have hcF := fun W => Ythacgkafdjnppaa.OpenFlat.cut_any_h (P := Try.prog) 27 51 rfl rfl (sz := 2) rfl (some ad5) xs.length c4 W .i64 q (q : Int) rfl (by omega)
                have HCD := Aside0.mk (fun W (h : Kd.C k51 W (some ad5) xs.length xs) => show Kd.C k51 W AD ys.length ys by have := Kd.C_drop h hpl hlc4; rw [← hAD, hys]; exact this)
                have HYL := Aside0.mk hyl
                have HYS := Aside0.mk hys
                clear hAD hys hyl
                go_wp2_with (first
                  | ((with_reducible refine gate_dst (N := 39) rfl ?_); refine Kd.R_lit k51 (w0 := Wc) Wc.heap.size 51 ?hg (N := 39) ?hd (xs := []) (inner := []) (ok := fun _ => True) (okp := fun _ => True) ?hr ?hp (fun _ hk => hk) trivial (Below.refl _ _) (Nat.le_refl _) (by simp) ?_; (case hd => rfl); (case hg => rfl); (case hr => first | (go_simp; done) | (go_simp; rfl)); (case hp => exact (Reps.none _ _)); intro v39 w39 ho hb hg_ hn_; have HO39 := Aside0.mk ho; have HB39 := Aside0.mk hb; clear ho hb hg_ hn_)
                  | ((with_reducible refine gate_builtin (b := .append) (xs := #[.tmp 39, .tmp 42]) rfl ?_); at_builtin; refine Kd.R_append_rows k51 (w0 := Wc) Wc.heap.size rfl (.tmp 39) (.tmp 42) 27 51 (.agg #[(.string ⟨#[]⟩), (.string ⟨#[]⟩)]) 32 rfl Try.underlying27 info51 rfl (by decide) (by decide) v39 [] ys AD ys.length (c4 - q) (fun _ => True) (fun _ => False) rfl rfl HO39.out (HCD.out _ (Kd.R_reads' (Kd.R_below HOc.out HB39.out)).2.2) (fun y cs h => by rw [k51_open h]; exact k51_mkM _ _ _ _) (fun _ h => h.elim) (fun _ _ => trivial) HB39.out HB39.out.size (by have := HLN.out; have := HYL.out; simp; omega) ?_; intro v43 w43 ho hb hg_ hn_; obtain ⟨A9, c9, rfl⟩ := Kd.R_slice ho; have HO43 := Aside0.mk ho; have HB43 := Aside0.mk hb; clear ho hb hg_ hn_))
                have HO4 := Aside0.mk (show Kd.R k51 51 w43 Wc.heap.size (fun _ => True) (.slice A9 ys.length c9) ys from HO43.out)
                have HOd := Aside0.mk (Kd.R_below HOc.out HB43.out)
                have HBd := Aside0.mk (below_step HBc.out HB43.out)
                have HXd := Aside0.mk ((HB43.out.block gb (blk_lt HXc.out)).trans HXc.out)
                have b10 : w43.cell? ⟨gb, 0, none⟩ = some (.string x0) := (blk_cell HXd.out 0).trans rfl
                have HBLK := Aside0.mk (show ∀ k k', (Value.slice A9 ys.length c9).ownBlock = some k → (Value.slice (some ad5) q c4).ownBlock = some k' → k ≠ k' from fun k k' hk hk' => by
                  have h1 := Kd.R_base HO43.out k hk
                  have h2 := ((Kd.R_bound HOc.out).1 k' (by rw [Ythacgkafdjnppaa.OpenFlat.ownBlock_slice (some ad5) xs.length c4 q c4]; exact hk')).2.2.1
                  omega)
                have hyp : 0 < ys.length := by have := HYL.out; omega
                have hypz : (0 : Int) < (ys.length : Int) := by omega
                obtain ⟨ad9, e1, hz0, _⟩ := at_T51 (Kd.R_reads' HO4.out).2.2 (0 : Int) (by omega) (by omega)
                cases e1
                have hrd : (rd_T51 ys (0 : Int)).f0 = k0 := by
                  rw [HK0.out, HYS.out, rd_T51, List.getD_eq_getElem?_getD, List.getD_eq_getElem?_getD, List.getElem?_drop]; rfl
                rw [hrd] at hz0
                have ha0 : ad9.add ((0 : Int).toNat * 2) = ad9 := by show ad9.add 0 = ad9; unfold Addr.add; simp
                rw [ha0] at hz0
                clear hrd ha0
                have hkb : (k0.toList == x0.toList) = false := by rw [Lib.toList_data, Lib.toList_data]; exact beq_eq_false_iff_ne.mpr hkx
                refine start_ (n := 12) (S := fun w' => w'.cell? ad9 = some (.string k0) ∧ w'.cell? ⟨gb, 0, none⟩ = some (.string x0)) (ds := []) #[false, false, false, false, false, false, false, false, false, false, false, false] (by kernel_rfl) rfl rfl ⟨hz0, b10⟩ (fun hHeld => ?_)
                refine pure_ (i := 0) (N := some 44) (v := ?_) (a' := ?_) #[true, false, false, false, false, false, false, false, false, false, false, false] rfl rfl (by kernel_rfl) (fun _ _ _ h => h) (Or.inl ⟨by rfl, ?_⟩) ?_ ?_
                rotate_left
                · intro w'; go_simp; with_reducible rfl
                rotate_left
                · simp only [Act.put, OpenRow.s1, OpenRow.s2, OpenRow.s3, i64_w, i32_w]; rfl
                refine pure_ (i := 1) (N := some 45) (v := ?_) (a' := ?_) #[true, true, false, false, false, false, false, false, false, false, false, false] rfl rfl (by kernel_rfl) (fun _ _ _ h => h) (Or.inl ⟨by rfl, ?_⟩) ?_ ?_
                rotate_left
                · intro w'; go_simp; with_reducible rfl
                rotate_left
                · simp only [Act.put, OpenRow.s1, OpenRow.s2, OpenRow.s3, i64_w, i32_w]; rfl
                refine pure_ (i := 2) (N := some 46) (v := ?_) (a' := ?_) #[true, true, true, false, false, false, false, false, false, false, false, false] rfl rfl (by kernel_rfl) (fun _ _ _ h => h) (Or.inl ⟨by rfl, ?_⟩) ?_ ?_
                rotate_left
                · intro w'; go_simp; with_reducible rfl
                rotate_left
                · simp only [Act.put, OpenRow.s1, OpenRow.s2, OpenRow.s3, i64_w, i32_w]; rfl
                refine pure_ (i := 3) (N := some 47) (v := ?_) (a' := ?_) #[true, true, true, true, false, false, false, false, false, false, false, false] rfl rfl (by kernel_rfl) (fun _ _ _ h => h) (Or.inl ⟨by rfl, ?_⟩) ?_ ?_
                rotate_left
                · intro w'; go_simp; with_reducible rfl
                rotate_left
                · simp only [Act.put, OpenRow.s1, OpenRow.s2, OpenRow.s3, i64_w, i32_w]; rfl
                refine pure_ (i := 4) (N := some 48) (v := ?_) (a' := ?_) #[true, true, true, true, true, false, false, false, false, false, false, false] rfl rfl (by kernel_rfl) (fun _ _ _ h => h) (Or.inl ⟨by rfl, ?_⟩) ?_ ?_
                rotate_left
                · intro w'; go_simp; with_reducible rfl
                rotate_left
                · simp only [Act.put, OpenRow.s1, OpenRow.s2, OpenRow.s3, i64_w, i32_w]; rfl
                refine pure_ (i := 5) (N := some 49) (v := ?_) (a' := ?_) #[true, true, true, true, true, true, false, false, false, false, false, false] rfl rfl (by kernel_rfl) (fun _ _ _ h => h) (Or.inl ⟨by rfl, ?_⟩) ?_ ?_
                rotate_left
                · intro w'; go_simp; with_reducible rfl
                rotate_left
                · simp only [Act.put, OpenRow.s1, OpenRow.s2, OpenRow.s3, i64_w, i32_w]; rfl
                refine pure_ (i := 6) (N := some 50) (v := ?_) (a' := ?_) #[true, true, true, true, true, true, true, false, false, false, false, false] rfl rfl (by kernel_rfl) (fun _ _ _ h => h) (Or.inl ⟨by rfl, ?_⟩) ?_ ?_
                rotate_left
                · intro w'; go_simp; with_reducible rfl
                rotate_left
                · simp only [Act.put, OpenRow.s1, OpenRow.s2, OpenRow.s3, i64_w, i32_w]; rfl
                refine pure_ (i := 8) (N := some 52) (v := ?_) (a' := ?_) #[true, true, true, true, true, true, true, false, true, false, false, false] rfl rfl (by kernel_rfl) (fun _ _ _ h => h) (Or.inl ⟨by rfl, ?_⟩) ?_ ?_
                rotate_left
                · intro w'; go_simp; with_reducible rfl
                rotate_left
                · simp only [Act.put, OpenRow.s1, OpenRow.s2, OpenRow.s3, i64_w, i32_w]; rfl
                refine take_ (i := 7) (N := some 51) (v := ?_) (a' := ?_) #[true, true, true, true, true, true, true, true, true, false, false, false] rfl rfl (by kernel_rfl) (fun _ _ _ h => h) (Or.inl ⟨by rfl, ?_⟩) hHeld ?_ ?_
                rotate_left
                · rintro w' ⟨s0, s1⟩
                  go_simp
                  with_reducible rfl
                rotate_left
                · simp only [Act.put, OpenRow.s1, OpenRow.s2, OpenRow.s3, i64_w, i32_w]; rfl
                refine take_ (i := 9) (N := some 53) (v := ?_) (a' := ?_) #[true, true, true, true, true, true, true, true, true, true, false, false] rfl rfl (by kernel_rfl) (fun _ _ _ h => h) (Or.inl ⟨by rfl, ?_⟩) hHeld ?_ ?_
                rotate_left
                · rintro w' ⟨s0, s1⟩
                  go_simp
                  with_reducible rfl
                rotate_left
                · simp only [Act.put, OpenRow.s1, OpenRow.s2, OpenRow.s3, i64_w, i32_w]; rfl
                refine pure_ (i := 10) (N := some 54) (v := ?_) (a' := ?_) #[true, true, true, true, true, true, true, true, true, true, true, false] rfl rfl (by kernel_rfl) (fun _ _ _ h => h) (Or.inl ⟨by rfl, ?_⟩) ?_ ?_
                rotate_left
                · intro w'; go_simp; with_reducible rfl
                rotate_left
                · simp only [Act.put, OpenRow.s1, OpenRow.s2, OpenRow.s3, i64_w, i32_w]; rfl
                refine pure_ (i := 11) (N := some 55) (v := ?_) (a' := ?_) #[true, true, true, true, true, true, true, true, true, true, true, true] rfl rfl (by kernel_rfl) (fun _ _ _ h => h) (Or.inl ⟨by rfl, ?_⟩) ?_ ?_
                rotate_left
                · intro w'; go_simp; with_reducible rfl
                rotate_left
                · simp only [Act.put, OpenRow.s1, OpenRow.s2, OpenRow.s3, i64_w, i32_w]; rfl
                refine done_ (by kernel_rfl) ?_
                have hhit : spec_l03Apply.hit xs x0 = false := by unfold spec_l03Apply.hit; rw [hpos, decide_eq_true (by omega), Bool.true_and]; exact decide_eq_false (by rw [← HK0.out]; exact hkx)
                have HFIN := Aside0.mk (show spec_l03Apply.step xs (⟨x0, x1, true⟩ : S79) = (xs.take q) ++ (ys) by rw [spec_l03Apply.step, if_pos rfl, spec_l03Apply.rest, if_neg (by rw [hhit]; simp), hpos, HYS.out] <;> simp [List.append_assoc])
                obtain ⟨Wd, hWd⟩ : ∃ Wd, Wd = w43.drew := ⟨_, rfl⟩
                rw [← hWd]
                have HT := Aside0.mk (show Kd.R k51 51 Wd w.heap.size (fun _ => True) (.slice (some ad5) q c4) (xs.take q) by rw [hWd]; exact Kd.R_take (Kd.R_drew HOd.out) hpl)
                have HBe := Aside0.mk (show Below w.heap.size w Wd by rw [hWd]; exact below_drew1 HBd.out)
                have HO9 := Aside0.mk (show Kd.R k51 51 Wd Wc.heap.size (fun _ => True) (.slice (some ad9) ys.length c9) ys by rw [hWd]; exact Kd.R_drew HO4.out)
                have HXe : Wd.heap[gb]? = some (.cells #[.string x0, .string x1, .bool true] 79 (0, 0)) := by rw [hWd]; exact HXd.out
                have u0 : Wd.cell? ⟨gb, 0, none⟩ = some (.string x0) := (blk_cell HXe 0).trans rfl
                have u1 : Wd.cell? ⟨gb, 1, none⟩ = some (.string x1) := (blk_cell HXe 1).trans rfl
                have u2 : Wd.cell? ⟨gb, 2, none⟩ = some (.bool true) := (blk_cell HXe 2).trans rfl
                have HYC := Aside0.mk (Kd.R_reads' HO9.out).2.1
                clear hWd hhit HXe
                go_wp2_with (first
                  | ((with_reducible refine gate_builtin (b := .append) (xs := #[.tmp 72, .tmp 73]) rfl ?_); at_builtin; refine Kd.R_append_rows k51 (w0 := w) w.heap.size rfl (.tmp 72) (.tmp 73) 27 51 (.agg #[(.string ⟨#[]⟩), (.string ⟨#[]⟩)]) 32 rfl Try.underlying27 info51 rfl (by decide) (by decide) (.slice (some ad5) q c4) (xs.take q) (ys) (some ad9) ys.length c9 (fun _ => True) (fun _ => False) rfl rfl HT.out (Kd.R_reads' HO9.out).2.2 (fun y cs h => by rw [k51_open h]; exact k51_mkM _ _ _ _) (fun _ h => h.elim) (fun _ _ => trivial) HBe.out HBe.out.size (by have := HLN.out; have := HYL.out; simp; omega) ?_; intro v74 w74 ho hb hg_ hn_; have HO74 := Aside0.mk ho; have HB74 := Aside0.mk hb; clear ho hb hg_ hn_))
                go_roundg (l1.length - (kk + 1))
                case measure => omega
                case rel => exact ⟨kk + 1, by omega, by omega, by go_num, ⟨by rw [HST.out, HFIN.out]; exact HO74.out⟩, HB74⟩
            | false =>
              by_cases hkx : k0.data.toList = x0.data.toList
              · skip
                go_wp2_with fail
                refine start_ (n := 14) (S := fun w' => w'.cell? (ad5.add (q * 2)) = some (.string k0) ∧ w'.cell? ⟨gb, 0, none⟩ = some (.string x0)) (ds := []) #[false, false, false, false, false, false, false, false, false, false, false, false, false, false] (by kernel_rfl) rfl rfl ⟨hy0, b0⟩ (fun hHeld => ?_)
                refine pure_ (i := 0) (N := some 23) (v := ?_) (a' := ?_) #[true, false, false, false, false, false, false, false, false, false, false, false, false, false] rfl rfl (by kernel_rfl) (fun _ _ _ h => h) (Or.inl ⟨by rfl, ?_⟩) ?_ ?_
                rotate_left
                · intro w'; go_simp; with_reducible rfl
                rotate_left
                · simp only [Act.put, OpenRow.s1, OpenRow.s2, OpenRow.s3, i64_w, i32_w]; rfl
                refine pure_ (i := 1) (N := some 24) (v := ?_) (a' := ?_) #[true, true, false, false, false, false, false, false, false, false, false, false, false, false] rfl rfl (by kernel_rfl) (fun _ _ _ h => h) (Or.inl ⟨by rfl, ?_⟩) ?_ ?_
                rotate_left
                · intro w'; go_simp; with_reducible rfl
                rotate_left
                · simp only [Act.put, OpenRow.s1, OpenRow.s2, OpenRow.s3, i64_w, i32_w]; rfl
                refine pure_ (i := 2) (N := some 25) (v := ?_) (a' := ?_) #[true, true, true, false, false, false, false, false, false, false, false, false, false, false] rfl rfl (by kernel_rfl) (fun _ _ _ h => h) (Or.inl ⟨by rfl, ?_⟩) ?_ ?_
                rotate_left
                · intro w'; go_simp; with_reducible rfl
                rotate_left
                · simp only [Act.put, OpenRow.s1, OpenRow.s2, OpenRow.s3, i64_w, i32_w]; rfl
                refine pure_ (i := 3) (N := some 26) (v := ?_) (a' := ?_) #[true, true, true, true, false, false, false, false, false, false, false, false, false, false] rfl rfl (by kernel_rfl) (fun _ _ _ h => h) (Or.inl ⟨by rfl, ?_⟩) ?_ ?_
                rotate_left
                · intro w'; go_simp; with_reducible rfl
                rotate_left
                · simp only [Act.put, OpenRow.s1, OpenRow.s2, OpenRow.s3, i64_w, i32_w]; rfl
                refine pure_ (i := 4) (N := some 27) (v := ?_) (a' := ?_) #[true, true, true, true, true, false, false, false, false, false, false, false, false, false] rfl rfl (by kernel_rfl) (fun _ _ _ h => h) (Or.inl ⟨by rfl, ?_⟩) ?_ ?_
                rotate_left
                · intro w'; go_simp; with_reducible rfl
                rotate_left
                · simp only [Act.put, OpenRow.s1, OpenRow.s2, OpenRow.s3, i64_w, i32_w]; rfl
                refine pure_ (i := 5) (N := some 28) (v := ?_) (a' := ?_) #[true, true, true, true, true, true, false, false, false, false, false, false, false, false] rfl rfl (by kernel_rfl) (fun _ _ _ h => h) (Or.inl ⟨by rfl, ?_⟩) ?_ ?_
                rotate_left
                · intro w'; go_simp; with_reducible rfl
                rotate_left
                · simp only [Act.put, OpenRow.s1, OpenRow.s2, OpenRow.s3, i64_w, i32_w]; rfl
                refine pure_ (i := 6) (N := some 29) (v := ?_) (a' := ?_) #[true, true, true, true, true, true, true, false, false, false, false, false, false, false] rfl rfl (by kernel_rfl) (fun _ _ _ h => h) (Or.inl ⟨by rfl, ?_⟩) ?_ ?_
                rotate_left
                · intro w'; go_simp; with_reducible rfl
                rotate_left
                · simp only [Act.put, OpenRow.s1, OpenRow.s2, OpenRow.s3, i64_w, i32_w]; rfl
                refine pure_ (i := 7) (N := some 30) (v := ?_) (a' := ?_) #[true, true, true, true, true, true, true, true, false, false, false, false, false, false] rfl rfl (by kernel_rfl) (fun _ _ _ h => h) (Or.inl ⟨by rfl, ?_⟩) ?_ ?_
                rotate_left
                · intro w'; go_simp; with_reducible rfl
                rotate_left
                · simp only [Act.put, OpenRow.s1, OpenRow.s2, OpenRow.s3, i64_w, i32_w]; rfl
                refine pure_ (i := 8) (N := some 31) (v := ?_) (a' := ?_) #[true, true, true, true, true, true, true, true, true, false, false, false, false, false] rfl rfl (by kernel_rfl) (fun _ _ _ h => h) (Or.inl ⟨by rfl, ?_⟩) ?_ ?_
                rotate_left
                · intro w'; go_simp; with_reducible rfl
                rotate_left
                · simp only [Act.put, OpenRow.s1, OpenRow.s2, OpenRow.s3, i64_w, i32_w]; rfl
                refine pure_ (i := 10) (N := some 33) (v := ?_) (a' := ?_) #[true, true, true, true, true, true, true, true, true, false, true, false, false, false] rfl rfl (by kernel_rfl) (fun _ _ _ h => h) (Or.inl ⟨by rfl, ?_⟩) ?_ ?_
                rotate_left
                · intro w'; go_simp; with_reducible rfl
                rotate_left
                · simp only [Act.put, OpenRow.s1, OpenRow.s2, OpenRow.s3, i64_w, i32_w]; rfl
                refine take_ (i := 9) (N := some 32) (v := ?_) (a' := ?_) #[true, true, true, true, true, true, true, true, true, true, true, false, false, false] rfl rfl (by kernel_rfl) (fun _ _ _ h => h) (Or.inl ⟨by rfl, ?_⟩) hHeld ?_ ?_
                rotate_left
                · rintro w' ⟨s0, s1⟩
                  go_simp
                  with_reducible rfl
                rotate_left
                · simp only [Act.put, OpenRow.s1, OpenRow.s2, OpenRow.s3, i64_w, i32_w]; rfl
                refine take_ (i := 11) (N := some 34) (v := ?_) (a' := ?_) #[true, true, true, true, true, true, true, true, true, true, true, true, false, false] rfl rfl (by kernel_rfl) (fun _ _ _ h => h) (Or.inl ⟨by rfl, ?_⟩) hHeld ?_ ?_
                rotate_left
                · rintro w' ⟨s0, s1⟩
                  go_simp
                  with_reducible rfl
                rotate_left
                · simp only [Act.put, OpenRow.s1, OpenRow.s2, OpenRow.s3, i64_w, i32_w]; rfl
                refine pure_ (i := 12) (N := some 35) (v := ?_) (a' := ?_) #[true, true, true, true, true, true, true, true, true, true, true, true, true, false] rfl rfl (by kernel_rfl) (fun _ _ _ h => h) (Or.inl ⟨by rfl, ?_⟩) ?_ ?_
                rotate_left
                · intro w'; go_simp; with_reducible rfl
                rotate_left
                · simp only [Act.put, OpenRow.s1, OpenRow.s2, OpenRow.s3, i64_w, i32_w]; rfl
                refine pure_ (i := 13) (N := some 36) (v := ?_) (a' := ?_) #[true, true, true, true, true, true, true, true, true, true, true, true, true, true] rfl rfl (by kernel_rfl) (fun _ _ _ h => h) (Or.inl ⟨by rfl, ?_⟩) ?_ ?_
                rotate_left
                · intro w'; go_simp; with_reducible rfl
                rotate_left
                · simp only [Act.put, OpenRow.s1, OpenRow.s2, OpenRow.s3, i64_w, i32_w]; rfl
                refine done_ (by kernel_rfl) ?_
                obtain ⟨Wc, hWc⟩ : ∃ Wc, Wc = wr.drew := ⟨_, rfl⟩
                rw [← hWc]
                have HOc := Aside0.mk (show Kd.R k51 51 Wc w.heap.size (fun _ => True) (.slice (some ad5) xs.length c4) xs by rw [hWc]; exact Kd.R_drew HO5.out)
                have HBc := Aside0.mk (show Below w.heap.size w Wc by rw [hWc]; exact below_drew1 HB5.out)
                have HXc := Aside0.mk (show Wc.heap[gb]? = some (.cells #[.string x0, .string x1, .bool false] 79 (0, 0)) by rw [hWc]; exact HX5.out)
                clear hWc
                have hlc4 : xs.length ≤ c4 := (Kd.R_reads' HOc.out).2.1
                obtain ⟨ys, hys⟩ : ∃ ys, ys = xs.drop q := ⟨_, rfl⟩
                have hyl : ys.length = xs.length - q := by rw [hys, List.length_drop]
                obtain ⟨AD, hAD⟩ : ∃ AD, (if c4 = q then (some ad5) else ((some ad5) : Option Addr).map (·.add (q * 2))) = AD := ⟨_, rfl⟩
                have hcD := fun W => Ythacgkafdjnppaa.OpenFlat.cut_any_l (P := Try.prog) 27 51 rfl rfl (sz := 2) rfl (some ad5) xs.length c4 W .i64 q (q : Int) rfl hpl
                rw [hAD, ← hyl] at hcD
                have hcF := fun W => Ythacgkafdjnppaa.OpenFlat.cut_any_h (P := Try.prog) 27 51 rfl rfl (sz := 2) rfl (some ad5) xs.length c4 W .i64 q (q : Int) rfl (by omega)
                have HCD := Aside0.mk (fun W (h : Kd.C k51 W (some ad5) xs.length xs) => show Kd.C k51 W AD ys.length ys by have := Kd.C_drop h hpl hlc4; rw [← hAD, hys]; exact this)
                have HYL := Aside0.mk hyl
                have HYS := Aside0.mk hys
                clear hAD hys hyl
                go_wp2_with (first
                  | ((with_reducible refine gate_dst (N := 39) rfl ?_); refine Kd.R_lit k51 (w0 := Wc) Wc.heap.size 51 ?hg (N := 39) ?hd (xs := []) (inner := []) (ok := fun _ => True) (okp := fun _ => True) ?hr ?hp (fun _ hk => hk) trivial (Below.refl _ _) (Nat.le_refl _) (by simp) ?_; (case hd => rfl); (case hg => rfl); (case hr => first | (go_simp; done) | (go_simp; rfl)); (case hp => exact (Reps.none _ _)); intro v39 w39 ho hb hg_ hn_; have HO39 := Aside0.mk ho; have HB39 := Aside0.mk hb; clear ho hb hg_ hn_)
                  | ((with_reducible refine gate_builtin (b := .append) (xs := #[.tmp 39, .tmp 42]) rfl ?_); at_builtin; refine Kd.R_append_rows k51 (w0 := Wc) Wc.heap.size rfl (.tmp 39) (.tmp 42) 27 51 (.agg #[(.string ⟨#[]⟩), (.string ⟨#[]⟩)]) 32 rfl Try.underlying27 info51 rfl (by decide) (by decide) v39 [] ys AD ys.length (c4 - q) (fun _ => True) (fun _ => False) rfl rfl HO39.out (HCD.out _ (Kd.R_reads' (Kd.R_below HOc.out HB39.out)).2.2) (fun y cs h => by rw [k51_open h]; exact k51_mkM _ _ _ _) (fun _ h => h.elim) (fun _ _ => trivial) HB39.out HB39.out.size (by have := HLN.out; have := HYL.out; simp; omega) ?_; intro v43 w43 ho hb hg_ hn_; obtain ⟨A9, c9, rfl⟩ := Kd.R_slice ho; have HO43 := Aside0.mk ho; have HB43 := Aside0.mk hb; clear ho hb hg_ hn_))
                have HO4 := Aside0.mk (show Kd.R k51 51 w43 Wc.heap.size (fun _ => True) (.slice A9 ys.length c9) ys from HO43.out)
                have HOd := Aside0.mk (Kd.R_below HOc.out HB43.out)
                have HBd := Aside0.mk (below_step HBc.out HB43.out)
                have HXd := Aside0.mk ((HB43.out.block gb (blk_lt HXc.out)).trans HXc.out)
                have b10 : w43.cell? ⟨gb, 0, none⟩ = some (.string x0) := (blk_cell HXd.out 0).trans rfl
                have HBLK := Aside0.mk (show ∀ k k', (Value.slice A9 ys.length c9).ownBlock = some k → (Value.slice (some ad5) q c4).ownBlock = some k' → k ≠ k' from fun k k' hk hk' => by
                  have h1 := Kd.R_base HO43.out k hk
                  have h2 := ((Kd.R_bound HOc.out).1 k' (by rw [Ythacgkafdjnppaa.OpenFlat.ownBlock_slice (some ad5) xs.length c4 q c4]; exact hk')).2.2.1
                  omega)
                have hyp : 0 < ys.length := by have := HYL.out; omega
                have hypz : (0 : Int) < (ys.length : Int) := by omega
                obtain ⟨ad9, e1, hz0, _⟩ := at_T51 (Kd.R_reads' HO4.out).2.2 (0 : Int) (by omega) (by omega)
                cases e1
                have hrd : (rd_T51 ys (0 : Int)).f0 = k0 := by
                  rw [HK0.out, HYS.out, rd_T51, List.getD_eq_getElem?_getD, List.getD_eq_getElem?_getD, List.getElem?_drop]; rfl
                rw [hrd] at hz0
                have ha0 : ad9.add ((0 : Int).toNat * 2) = ad9 := by show ad9.add 0 = ad9; unfold Addr.add; simp
                rw [ha0] at hz0
                clear hrd ha0
                have hkb : (k0.toList == x0.toList) = true := by rw [Lib.toList_data, Lib.toList_data]; exact beq_iff_eq.mpr hkx
                refine start_ (n := 12) (S := fun w' => w'.cell? ad9 = some (.string k0) ∧ w'.cell? ⟨gb, 0, none⟩ = some (.string x0)) (ds := []) #[false, false, false, false, false, false, false, false, false, false, false, false] (by kernel_rfl) rfl rfl ⟨hz0, b10⟩ (fun hHeld => ?_)
                refine pure_ (i := 0) (N := some 44) (v := ?_) (a' := ?_) #[true, false, false, false, false, false, false, false, false, false, false, false] rfl rfl (by kernel_rfl) (fun _ _ _ h => h) (Or.inl ⟨by rfl, ?_⟩) ?_ ?_
                rotate_left
                · intro w'; go_simp; with_reducible rfl
                rotate_left
                · simp only [Act.put, OpenRow.s1, OpenRow.s2, OpenRow.s3, i64_w, i32_w]; rfl
                refine pure_ (i := 1) (N := some 45) (v := ?_) (a' := ?_) #[true, true, false, false, false, false, false, false, false, false, false, false] rfl rfl (by kernel_rfl) (fun _ _ _ h => h) (Or.inl ⟨by rfl, ?_⟩) ?_ ?_
                rotate_left
                · intro w'; go_simp; with_reducible rfl
                rotate_left
                · simp only [Act.put, OpenRow.s1, OpenRow.s2, OpenRow.s3, i64_w, i32_w]; rfl
                refine pure_ (i := 2) (N := some 46) (v := ?_) (a' := ?_) #[true, true, true, false, false, false, false, false, false, false, false, false] rfl rfl (by kernel_rfl) (fun _ _ _ h => h) (Or.inl ⟨by rfl, ?_⟩) ?_ ?_
                rotate_left
                · intro w'; go_simp; with_reducible rfl
                rotate_left
                · simp only [Act.put, OpenRow.s1, OpenRow.s2, OpenRow.s3, i64_w, i32_w]; rfl
                refine pure_ (i := 3) (N := some 47) (v := ?_) (a' := ?_) #[true, true, true, true, false, false, false, false, false, false, false, false] rfl rfl (by kernel_rfl) (fun _ _ _ h => h) (Or.inl ⟨by rfl, ?_⟩) ?_ ?_
                rotate_left
                · intro w'; go_simp; with_reducible rfl
                rotate_left
                · simp only [Act.put, OpenRow.s1, OpenRow.s2, OpenRow.s3, i64_w, i32_w]; rfl
                refine pure_ (i := 4) (N := some 48) (v := ?_) (a' := ?_) #[true, true, true, true, true, false, false, false, false, false, false, false] rfl rfl (by kernel_rfl) (fun _ _ _ h => h) (Or.inl ⟨by rfl, ?_⟩) ?_ ?_
                rotate_left
                · intro w'; go_simp; with_reducible rfl
                rotate_left
                · simp only [Act.put, OpenRow.s1, OpenRow.s2, OpenRow.s3, i64_w, i32_w]; rfl
                refine pure_ (i := 5) (N := some 49) (v := ?_) (a' := ?_) #[true, true, true, true, true, true, false, false, false, false, false, false] rfl rfl (by kernel_rfl) (fun _ _ _ h => h) (Or.inl ⟨by rfl, ?_⟩) ?_ ?_
                rotate_left
                · intro w'; go_simp; with_reducible rfl
                rotate_left
                · simp only [Act.put, OpenRow.s1, OpenRow.s2, OpenRow.s3, i64_w, i32_w]; rfl
                refine pure_ (i := 6) (N := some 50) (v := ?_) (a' := ?_) #[true, true, true, true, true, true, true, false, false, false, false, false] rfl rfl (by kernel_rfl) (fun _ _ _ h => h) (Or.inl ⟨by rfl, ?_⟩) ?_ ?_
                rotate_left
                · intro w'; go_simp; with_reducible rfl
                rotate_left
                · simp only [Act.put, OpenRow.s1, OpenRow.s2, OpenRow.s3, i64_w, i32_w]; rfl
                refine pure_ (i := 8) (N := some 52) (v := ?_) (a' := ?_) #[true, true, true, true, true, true, true, false, true, false, false, false] rfl rfl (by kernel_rfl) (fun _ _ _ h => h) (Or.inl ⟨by rfl, ?_⟩) ?_ ?_
                rotate_left
                · intro w'; go_simp; with_reducible rfl
                rotate_left
                · simp only [Act.put, OpenRow.s1, OpenRow.s2, OpenRow.s3, i64_w, i32_w]; rfl
                refine take_ (i := 7) (N := some 51) (v := ?_) (a' := ?_) #[true, true, true, true, true, true, true, true, true, false, false, false] rfl rfl (by kernel_rfl) (fun _ _ _ h => h) (Or.inl ⟨by rfl, ?_⟩) hHeld ?_ ?_
                rotate_left
                · rintro w' ⟨s0, s1⟩
                  go_simp
                  with_reducible rfl
                rotate_left
                · simp only [Act.put, OpenRow.s1, OpenRow.s2, OpenRow.s3, i64_w, i32_w]; rfl
                refine take_ (i := 9) (N := some 53) (v := ?_) (a' := ?_) #[true, true, true, true, true, true, true, true, true, true, false, false] rfl rfl (by kernel_rfl) (fun _ _ _ h => h) (Or.inl ⟨by rfl, ?_⟩) hHeld ?_ ?_
                rotate_left
                · rintro w' ⟨s0, s1⟩
                  go_simp
                  with_reducible rfl
                rotate_left
                · simp only [Act.put, OpenRow.s1, OpenRow.s2, OpenRow.s3, i64_w, i32_w]; rfl
                refine pure_ (i := 10) (N := some 54) (v := ?_) (a' := ?_) #[true, true, true, true, true, true, true, true, true, true, true, false] rfl rfl (by kernel_rfl) (fun _ _ _ h => h) (Or.inl ⟨by rfl, ?_⟩) ?_ ?_
                rotate_left
                · intro w'; go_simp; with_reducible rfl
                rotate_left
                · simp only [Act.put, OpenRow.s1, OpenRow.s2, OpenRow.s3, i64_w, i32_w]; rfl
                refine pure_ (i := 11) (N := some 55) (v := ?_) (a' := ?_) #[true, true, true, true, true, true, true, true, true, true, true, true] rfl rfl (by kernel_rfl) (fun _ _ _ h => h) (Or.inl ⟨by rfl, ?_⟩) ?_ ?_
                rotate_left
                · intro w'; go_simp; with_reducible rfl
                rotate_left
                · simp only [Act.put, OpenRow.s1, OpenRow.s2, OpenRow.s3, i64_w, i32_w]; rfl
                refine done_ (by kernel_rfl) ?_
                have hhit : spec_l03Apply.hit xs x0 = true := by unfold spec_l03Apply.hit; rw [hpos, decide_eq_true (by omega), Bool.true_and]; exact decide_eq_true (by rw [← HK0.out]; exact hkx)
                have HFIN := Aside0.mk (show spec_l03Apply.step xs (⟨x0, x1, false⟩ : S79) = (xs.take q ++ [(⟨x0, x1⟩ : S51)]) ++ (ys.drop 1) by rw [spec_l03Apply.step, if_neg (by simp), spec_l03Apply.rest, if_pos hhit, hpos, HYS.out, List.drop_drop] <;> simp [List.append_assoc])
                obtain ⟨Wd, hWd⟩ : ∃ Wd, Wd = w43.drew := ⟨_, rfl⟩
                rw [← hWd]
                have HT := Aside0.mk (show Kd.R k51 51 Wd w.heap.size (fun _ => True) (.slice (some ad5) q c4) (xs.take q) by rw [hWd]; exact Kd.R_take (Kd.R_drew HOd.out) hpl)
                have HBe := Aside0.mk (show Below w.heap.size w Wd by rw [hWd]; exact below_drew1 HBd.out)
                have HO9 := Aside0.mk (show Kd.R k51 51 Wd Wc.heap.size (fun _ => True) (.slice (some ad9) ys.length c9) ys by rw [hWd]; exact Kd.R_drew HO4.out)
                have HXe : Wd.heap[gb]? = some (.cells #[.string x0, .string x1, .bool false] 79 (0, 0)) := by rw [hWd]; exact HXd.out
                have u0 : Wd.cell? ⟨gb, 0, none⟩ = some (.string x0) := (blk_cell HXe 0).trans rfl
                have u1 : Wd.cell? ⟨gb, 1, none⟩ = some (.string x1) := (blk_cell HXe 1).trans rfl
                have u2 : Wd.cell? ⟨gb, 2, none⟩ = some (.bool false) := (blk_cell HXe 2).trans rfl
                have HYC := Aside0.mk (Kd.R_reads' HO9.out).2.1
                clear hWd hhit HXe
                have hlc9 := HYC.out
                obtain ⟨AE, hAE⟩ : ∃ AE, (if c9 = 1 then (some ad9) else ((some ad9) : Option Addr).map (·.add (1 * 2))) = AE := ⟨_, rfl⟩
                have hcE := fun W => Ythacgkafdjnppaa.OpenFlat.cut_any_l (P := Try.prog) 27 51 rfl rfl (sz := 2) rfl (some ad9) ys.length c9 W .i64 1 (1 : Int) rfl hyp
                rw [hAE] at hcE
                have HCE := Aside0.mk (fun W (h : Kd.C k51 W (some ad9) ys.length ys) => show Kd.C k51 W AE (ys.length - 1) (ys.drop 1) by have := Kd.C_drop h hyp hlc9; rw [List.length_drop] at this; rw [← hAE]; exact this)
                clear hAE hlc9
                go_wp2_with (first
                  | ((with_reducible refine gate_builtin (b := .append) (xs := #[.tmp 64, .tmp 70]) rfl ?_); at_builtin; refine Kd.R_append k51 (w0 := w) w.heap.size rfl (.tmp 64) (.tmp 70) 27 51 (.agg #[(.string ⟨#[]⟩), (.string ⟨#[]⟩)]) 32 rfl Try.underlying27 info51 rfl (by decide) (by decide) (.slice (some ad5) q c4) (xs.take q) (⟨x0, x1⟩ : S51) [.string x0, .string x1] (fun _ => True) (fun _ => False) rfl rfl (k51_mkM _ _ _ (⟨x0, x1⟩ : S51)) (fun _ hk => hk.elim) (fun _ _ => trivial) HT.out HBe.out HBe.out.size (by have := HLN.out; simp; omega) ?_; intro v71 w71 ho hb hg_ hat_; have HO71 := Aside0.mk ho; have HB71 := Aside0.mk hb; have HR71 := Aside0.mk (Ythacgkafdjnppaa.OpenFlat.R_kept spec_l03Apply.flat HO9.out hg_ (fun k hk he => HBLK.out k k hk he.symm rfl)); clear ho hb hg_ hat_)
                  | ((with_reducible refine gate_builtin (b := .append) (xs := #[.tmp 72, .tmp 73]) rfl ?_); at_builtin; refine Kd.R_append_rows k51 (w0 := w) w.heap.size rfl (.tmp 72) (.tmp 73) 27 51 (.agg #[(.string ⟨#[]⟩), (.string ⟨#[]⟩)]) 32 rfl Try.underlying27 info51 rfl (by decide) (by decide) v71 (xs.take q ++ [(⟨x0, x1⟩ : S51)]) (ys.drop 1) AE (ys.length - 1) (c9 - 1) (fun _ => True) (fun _ => False) rfl rfl HO71.out (HCE.out _ (Kd.R_reads' HR71.out).2.2) (fun y cs h => by rw [k51_open h]; exact k51_mkM _ _ _ _) (fun _ h => h.elim) (fun _ _ => trivial) HB71.out HB71.out.size (by have := HLN.out; have := HYL.out; simp; omega) ?_; intro v74 w74 ho hb hg_ hn_; have HO74 := Aside0.mk ho; have HB74 := Aside0.mk hb; clear ho hb hg_ hn_))
                go_roundg (l1.length - (kk + 1))
                case measure => omega
                case rel => exact ⟨kk + 1, by omega, by omega, by go_num, ⟨by rw [HST.out, HFIN.out]; exact HO74.out⟩, HB74⟩
              · skip
                go_wp2_with fail
                refine start_ (n := 14) (S := fun w' => w'.cell? (ad5.add (q * 2)) = some (.string k0) ∧ w'.cell? ⟨gb, 0, none⟩ = some (.string x0)) (ds := []) #[false, false, false, false, false, false, false, false, false, false, false, false, false, false] (by kernel_rfl) rfl rfl ⟨hy0, b0⟩ (fun hHeld => ?_)
                refine pure_ (i := 0) (N := some 23) (v := ?_) (a' := ?_) #[true, false, false, false, false, false, false, false, false, false, false, false, false, false] rfl rfl (by kernel_rfl) (fun _ _ _ h => h) (Or.inl ⟨by rfl, ?_⟩) ?_ ?_
                rotate_left
                · intro w'; go_simp; with_reducible rfl
                rotate_left
                · simp only [Act.put, OpenRow.s1, OpenRow.s2, OpenRow.s3, i64_w, i32_w]; rfl
                refine pure_ (i := 1) (N := some 24) (v := ?_) (a' := ?_) #[true, true, false, false, false, false, false, false, false, false, false, false, false, false] rfl rfl (by kernel_rfl) (fun _ _ _ h => h) (Or.inl ⟨by rfl, ?_⟩) ?_ ?_
                rotate_left
                · intro w'; go_simp; with_reducible rfl
                rotate_left
                · simp only [Act.put, OpenRow.s1, OpenRow.s2, OpenRow.s3, i64_w, i32_w]; rfl
                refine pure_ (i := 2) (N := some 25) (v := ?_) (a' := ?_) #[true, true, true, false, false, false, false, false, false, false, false, false, false, false] rfl rfl (by kernel_rfl) (fun _ _ _ h => h) (Or.inl ⟨by rfl, ?_⟩) ?_ ?_
                rotate_left
                · intro w'; go_simp; with_reducible rfl
                rotate_left
                · simp only [Act.put, OpenRow.s1, OpenRow.s2, OpenRow.s3, i64_w, i32_w]; rfl
                refine pure_ (i := 3) (N := some 26) (v := ?_) (a' := ?_) #[true, true, true, true, false, false, false, false, false, false, false, false, false, false] rfl rfl (by kernel_rfl) (fun _ _ _ h => h) (Or.inl ⟨by rfl, ?_⟩) ?_ ?_
                rotate_left
                · intro w'; go_simp; with_reducible rfl
                rotate_left
                · simp only [Act.put, OpenRow.s1, OpenRow.s2, OpenRow.s3, i64_w, i32_w]; rfl
                refine pure_ (i := 4) (N := some 27) (v := ?_) (a' := ?_) #[true, true, true, true, true, false, false, false, false, false, false, false, false, false] rfl rfl (by kernel_rfl) (fun _ _ _ h => h) (Or.inl ⟨by rfl, ?_⟩) ?_ ?_
                rotate_left
                · intro w'; go_simp; with_reducible rfl
                rotate_left
                · simp only [Act.put, OpenRow.s1, OpenRow.s2, OpenRow.s3, i64_w, i32_w]; rfl
                refine pure_ (i := 5) (N := some 28) (v := ?_) (a' := ?_) #[true, true, true, true, true, true, false, false, false, false, false, false, false, false] rfl rfl (by kernel_rfl) (fun _ _ _ h => h) (Or.inl ⟨by rfl, ?_⟩) ?_ ?_
                rotate_left
                · intro w'; go_simp; with_reducible rfl
                rotate_left
                · simp only [Act.put, OpenRow.s1, OpenRow.s2, OpenRow.s3, i64_w, i32_w]; rfl
                refine pure_ (i := 6) (N := some 29) (v := ?_) (a' := ?_) #[true, true, true, true, true, true, true, false, false, false, false, false, false, false] rfl rfl (by kernel_rfl) (fun _ _ _ h => h) (Or.inl ⟨by rfl, ?_⟩) ?_ ?_
                rotate_left
                · intro w'; go_simp; with_reducible rfl
                rotate_left
                · simp only [Act.put, OpenRow.s1, OpenRow.s2, OpenRow.s3, i64_w, i32_w]; rfl
                refine pure_ (i := 7) (N := some 30) (v := ?_) (a' := ?_) #[true, true, true, true, true, true, true, true, false, false, false, false, false, false] rfl rfl (by kernel_rfl) (fun _ _ _ h => h) (Or.inl ⟨by rfl, ?_⟩) ?_ ?_
                rotate_left
                · intro w'; go_simp; with_reducible rfl
                rotate_left
                · simp only [Act.put, OpenRow.s1, OpenRow.s2, OpenRow.s3, i64_w, i32_w]; rfl
                refine pure_ (i := 8) (N := some 31) (v := ?_) (a' := ?_) #[true, true, true, true, true, true, true, true, true, false, false, false, false, false] rfl rfl (by kernel_rfl) (fun _ _ _ h => h) (Or.inl ⟨by rfl, ?_⟩) ?_ ?_
                rotate_left
                · intro w'; go_simp; with_reducible rfl
                rotate_left
                · simp only [Act.put, OpenRow.s1, OpenRow.s2, OpenRow.s3, i64_w, i32_w]; rfl
                refine pure_ (i := 10) (N := some 33) (v := ?_) (a' := ?_) #[true, true, true, true, true, true, true, true, true, false, true, false, false, false] rfl rfl (by kernel_rfl) (fun _ _ _ h => h) (Or.inl ⟨by rfl, ?_⟩) ?_ ?_
                rotate_left
                · intro w'; go_simp; with_reducible rfl
                rotate_left
                · simp only [Act.put, OpenRow.s1, OpenRow.s2, OpenRow.s3, i64_w, i32_w]; rfl
                refine take_ (i := 9) (N := some 32) (v := ?_) (a' := ?_) #[true, true, true, true, true, true, true, true, true, true, true, false, false, false] rfl rfl (by kernel_rfl) (fun _ _ _ h => h) (Or.inl ⟨by rfl, ?_⟩) hHeld ?_ ?_
                rotate_left
                · rintro w' ⟨s0, s1⟩
                  go_simp
                  with_reducible rfl
                rotate_left
                · simp only [Act.put, OpenRow.s1, OpenRow.s2, OpenRow.s3, i64_w, i32_w]; rfl
                refine take_ (i := 11) (N := some 34) (v := ?_) (a' := ?_) #[true, true, true, true, true, true, true, true, true, true, true, true, false, false] rfl rfl (by kernel_rfl) (fun _ _ _ h => h) (Or.inl ⟨by rfl, ?_⟩) hHeld ?_ ?_
                rotate_left
                · rintro w' ⟨s0, s1⟩
                  go_simp
                  with_reducible rfl
                rotate_left
                · simp only [Act.put, OpenRow.s1, OpenRow.s2, OpenRow.s3, i64_w, i32_w]; rfl
                refine pure_ (i := 12) (N := some 35) (v := ?_) (a' := ?_) #[true, true, true, true, true, true, true, true, true, true, true, true, true, false] rfl rfl (by kernel_rfl) (fun _ _ _ h => h) (Or.inl ⟨by rfl, ?_⟩) ?_ ?_
                rotate_left
                · intro w'; go_simp; with_reducible rfl
                rotate_left
                · simp only [Act.put, OpenRow.s1, OpenRow.s2, OpenRow.s3, i64_w, i32_w]; rfl
                refine pure_ (i := 13) (N := some 36) (v := ?_) (a' := ?_) #[true, true, true, true, true, true, true, true, true, true, true, true, true, true] rfl rfl (by kernel_rfl) (fun _ _ _ h => h) (Or.inl ⟨by rfl, ?_⟩) ?_ ?_
                rotate_left
                · intro w'; go_simp; with_reducible rfl
                rotate_left
                · simp only [Act.put, OpenRow.s1, OpenRow.s2, OpenRow.s3, i64_w, i32_w]; rfl
                refine done_ (by kernel_rfl) ?_
                obtain ⟨Wc, hWc⟩ : ∃ Wc, Wc = wr.drew := ⟨_, rfl⟩
                rw [← hWc]
                have HOc := Aside0.mk (show Kd.R k51 51 Wc w.heap.size (fun _ => True) (.slice (some ad5) xs.length c4) xs by rw [hWc]; exact Kd.R_drew HO5.out)
                have HBc := Aside0.mk (show Below w.heap.size w Wc by rw [hWc]; exact below_drew1 HB5.out)
                have HXc := Aside0.mk (show Wc.heap[gb]? = some (.cells #[.string x0, .string x1, .bool false] 79 (0, 0)) by rw [hWc]; exact HX5.out)
                clear hWc
                have hlc4 : xs.length ≤ c4 := (Kd.R_reads' HOc.out).2.1
                obtain ⟨ys, hys⟩ : ∃ ys, ys = xs.drop q := ⟨_, rfl⟩
                have hyl : ys.length = xs.length - q := by rw [hys, List.length_drop]
                obtain ⟨AD, hAD⟩ : ∃ AD, (if c4 = q then (some ad5) else ((some ad5) : Option Addr).map (·.add (q * 2))) = AD := ⟨_, rfl⟩
                have hcD := fun W => Ythacgkafdjnppaa.OpenFlat.cut_any_l (P := Try.prog) 27 51 rfl rfl (sz := 2) rfl (some ad5) xs.length c4 W .i64 q (q : Int) rfl hpl
                rw [hAD, ← hyl] at hcD
                have hcF := fun W => Ythacgkafdjnppaa.OpenFlat.cut_any_h (P := Try.prog) 27 51 rfl rfl (sz := 2) rfl (some ad5) xs.length c4 W .i64 q (q : Int) rfl (by omega)
                have HCD := Aside0.mk (fun W (h : Kd.C k51 W (some ad5) xs.length xs) => show Kd.C k51 W AD ys.length ys by have := Kd.C_drop h hpl hlc4; rw [← hAD, hys]; exact this)
                have HYL := Aside0.mk hyl
                have HYS := Aside0.mk hys
                clear hAD hys hyl
                go_wp2_with (first
                  | ((with_reducible refine gate_dst (N := 39) rfl ?_); refine Kd.R_lit k51 (w0 := Wc) Wc.heap.size 51 ?hg (N := 39) ?hd (xs := []) (inner := []) (ok := fun _ => True) (okp := fun _ => True) ?hr ?hp (fun _ hk => hk) trivial (Below.refl _ _) (Nat.le_refl _) (by simp) ?_; (case hd => rfl); (case hg => rfl); (case hr => first | (go_simp; done) | (go_simp; rfl)); (case hp => exact (Reps.none _ _)); intro v39 w39 ho hb hg_ hn_; have HO39 := Aside0.mk ho; have HB39 := Aside0.mk hb; clear ho hb hg_ hn_)
                  | ((with_reducible refine gate_builtin (b := .append) (xs := #[.tmp 39, .tmp 42]) rfl ?_); at_builtin; refine Kd.R_append_rows k51 (w0 := Wc) Wc.heap.size rfl (.tmp 39) (.tmp 42) 27 51 (.agg #[(.string ⟨#[]⟩), (.string ⟨#[]⟩)]) 32 rfl Try.underlying27 info51 rfl (by decide) (by decide) v39 [] ys AD ys.length (c4 - q) (fun _ => True) (fun _ => False) rfl rfl HO39.out (HCD.out _ (Kd.R_reads' (Kd.R_below HOc.out HB39.out)).2.2) (fun y cs h => by rw [k51_open h]; exact k51_mkM _ _ _ _) (fun _ h => h.elim) (fun _ _ => trivial) HB39.out HB39.out.size (by have := HLN.out; have := HYL.out; simp; omega) ?_; intro v43 w43 ho hb hg_ hn_; obtain ⟨A9, c9, rfl⟩ := Kd.R_slice ho; have HO43 := Aside0.mk ho; have HB43 := Aside0.mk hb; clear ho hb hg_ hn_))
                have HO4 := Aside0.mk (show Kd.R k51 51 w43 Wc.heap.size (fun _ => True) (.slice A9 ys.length c9) ys from HO43.out)
                have HOd := Aside0.mk (Kd.R_below HOc.out HB43.out)
                have HBd := Aside0.mk (below_step HBc.out HB43.out)
                have HXd := Aside0.mk ((HB43.out.block gb (blk_lt HXc.out)).trans HXc.out)
                have b10 : w43.cell? ⟨gb, 0, none⟩ = some (.string x0) := (blk_cell HXd.out 0).trans rfl
                have HBLK := Aside0.mk (show ∀ k k', (Value.slice A9 ys.length c9).ownBlock = some k → (Value.slice (some ad5) q c4).ownBlock = some k' → k ≠ k' from fun k k' hk hk' => by
                  have h1 := Kd.R_base HO43.out k hk
                  have h2 := ((Kd.R_bound HOc.out).1 k' (by rw [Ythacgkafdjnppaa.OpenFlat.ownBlock_slice (some ad5) xs.length c4 q c4]; exact hk')).2.2.1
                  omega)
                have hyp : 0 < ys.length := by have := HYL.out; omega
                have hypz : (0 : Int) < (ys.length : Int) := by omega
                obtain ⟨ad9, e1, hz0, _⟩ := at_T51 (Kd.R_reads' HO4.out).2.2 (0 : Int) (by omega) (by omega)
                cases e1
                have hrd : (rd_T51 ys (0 : Int)).f0 = k0 := by
                  rw [HK0.out, HYS.out, rd_T51, List.getD_eq_getElem?_getD, List.getD_eq_getElem?_getD, List.getElem?_drop]; rfl
                rw [hrd] at hz0
                have ha0 : ad9.add ((0 : Int).toNat * 2) = ad9 := by show ad9.add 0 = ad9; unfold Addr.add; simp
                rw [ha0] at hz0
                clear hrd ha0
                have hkb : (k0.toList == x0.toList) = false := by rw [Lib.toList_data, Lib.toList_data]; exact beq_eq_false_iff_ne.mpr hkx
                refine start_ (n := 12) (S := fun w' => w'.cell? ad9 = some (.string k0) ∧ w'.cell? ⟨gb, 0, none⟩ = some (.string x0)) (ds := []) #[false, false, false, false, false, false, false, false, false, false, false, false] (by kernel_rfl) rfl rfl ⟨hz0, b10⟩ (fun hHeld => ?_)
                refine pure_ (i := 0) (N := some 44) (v := ?_) (a' := ?_) #[true, false, false, false, false, false, false, false, false, false, false, false] rfl rfl (by kernel_rfl) (fun _ _ _ h => h) (Or.inl ⟨by rfl, ?_⟩) ?_ ?_
                rotate_left
                · intro w'; go_simp; with_reducible rfl
                rotate_left
                · simp only [Act.put, OpenRow.s1, OpenRow.s2, OpenRow.s3, i64_w, i32_w]; rfl
                refine pure_ (i := 1) (N := some 45) (v := ?_) (a' := ?_) #[true, true, false, false, false, false, false, false, false, false, false, false] rfl rfl (by kernel_rfl) (fun _ _ _ h => h) (Or.inl ⟨by rfl, ?_⟩) ?_ ?_
                rotate_left
                · intro w'; go_simp; with_reducible rfl
                rotate_left
                · simp only [Act.put, OpenRow.s1, OpenRow.s2, OpenRow.s3, i64_w, i32_w]; rfl
                refine pure_ (i := 2) (N := some 46) (v := ?_) (a' := ?_) #[true, true, true, false, false, false, false, false, false, false, false, false] rfl rfl (by kernel_rfl) (fun _ _ _ h => h) (Or.inl ⟨by rfl, ?_⟩) ?_ ?_
                rotate_left
                · intro w'; go_simp; with_reducible rfl
                rotate_left
                · simp only [Act.put, OpenRow.s1, OpenRow.s2, OpenRow.s3, i64_w, i32_w]; rfl
                refine pure_ (i := 3) (N := some 47) (v := ?_) (a' := ?_) #[true, true, true, true, false, false, false, false, false, false, false, false] rfl rfl (by kernel_rfl) (fun _ _ _ h => h) (Or.inl ⟨by rfl, ?_⟩) ?_ ?_
                rotate_left
                · intro w'; go_simp; with_reducible rfl
                rotate_left
                · simp only [Act.put, OpenRow.s1, OpenRow.s2, OpenRow.s3, i64_w, i32_w]; rfl
                refine pure_ (i := 4) (N := some 48) (v := ?_) (a' := ?_) #[true, true, true, true, true, false, false, false, false, false, false, false] rfl rfl (by kernel_rfl) (fun _ _ _ h => h) (Or.inl ⟨by rfl, ?_⟩) ?_ ?_
                rotate_left
                · intro w'; go_simp; with_reducible rfl
                rotate_left
                · simp only [Act.put, OpenRow.s1, OpenRow.s2, OpenRow.s3, i64_w, i32_w]; rfl
                refine pure_ (i := 5) (N := some 49) (v := ?_) (a' := ?_) #[true, true, true, true, true, true, false, false, false, false, false, false] rfl rfl (by kernel_rfl) (fun _ _ _ h => h) (Or.inl ⟨by rfl, ?_⟩) ?_ ?_
                rotate_left
                · intro w'; go_simp; with_reducible rfl
                rotate_left
                · simp only [Act.put, OpenRow.s1, OpenRow.s2, OpenRow.s3, i64_w, i32_w]; rfl
                refine pure_ (i := 6) (N := some 50) (v := ?_) (a' := ?_) #[true, true, true, true, true, true, true, false, false, false, false, false] rfl rfl (by kernel_rfl) (fun _ _ _ h => h) (Or.inl ⟨by rfl, ?_⟩) ?_ ?_
                rotate_left
                · intro w'; go_simp; with_reducible rfl
                rotate_left
                · simp only [Act.put, OpenRow.s1, OpenRow.s2, OpenRow.s3, i64_w, i32_w]; rfl
                refine pure_ (i := 8) (N := some 52) (v := ?_) (a' := ?_) #[true, true, true, true, true, true, true, false, true, false, false, false] rfl rfl (by kernel_rfl) (fun _ _ _ h => h) (Or.inl ⟨by rfl, ?_⟩) ?_ ?_
                rotate_left
                · intro w'; go_simp; with_reducible rfl
                rotate_left
                · simp only [Act.put, OpenRow.s1, OpenRow.s2, OpenRow.s3, i64_w, i32_w]; rfl
                refine take_ (i := 7) (N := some 51) (v := ?_) (a' := ?_) #[true, true, true, true, true, true, true, true, true, false, false, false] rfl rfl (by kernel_rfl) (fun _ _ _ h => h) (Or.inl ⟨by rfl, ?_⟩) hHeld ?_ ?_
                rotate_left
                · rintro w' ⟨s0, s1⟩
                  go_simp
                  with_reducible rfl
                rotate_left
                · simp only [Act.put, OpenRow.s1, OpenRow.s2, OpenRow.s3, i64_w, i32_w]; rfl
                refine take_ (i := 9) (N := some 53) (v := ?_) (a' := ?_) #[true, true, true, true, true, true, true, true, true, true, false, false] rfl rfl (by kernel_rfl) (fun _ _ _ h => h) (Or.inl ⟨by rfl, ?_⟩) hHeld ?_ ?_
                rotate_left
                · rintro w' ⟨s0, s1⟩
                  go_simp
                  with_reducible rfl
                rotate_left
                · simp only [Act.put, OpenRow.s1, OpenRow.s2, OpenRow.s3, i64_w, i32_w]; rfl
                refine pure_ (i := 10) (N := some 54) (v := ?_) (a' := ?_) #[true, true, true, true, true, true, true, true, true, true, true, false] rfl rfl (by kernel_rfl) (fun _ _ _ h => h) (Or.inl ⟨by rfl, ?_⟩) ?_ ?_
                rotate_left
                · intro w'; go_simp; with_reducible rfl
                rotate_left
                · simp only [Act.put, OpenRow.s1, OpenRow.s2, OpenRow.s3, i64_w, i32_w]; rfl
                refine pure_ (i := 11) (N := some 55) (v := ?_) (a' := ?_) #[true, true, true, true, true, true, true, true, true, true, true, true] rfl rfl (by kernel_rfl) (fun _ _ _ h => h) (Or.inl ⟨by rfl, ?_⟩) ?_ ?_
                rotate_left
                · intro w'; go_simp; with_reducible rfl
                rotate_left
                · simp only [Act.put, OpenRow.s1, OpenRow.s2, OpenRow.s3, i64_w, i32_w]; rfl
                refine done_ (by kernel_rfl) ?_
                have hhit : spec_l03Apply.hit xs x0 = false := by unfold spec_l03Apply.hit; rw [hpos, decide_eq_true (by omega), Bool.true_and]; exact decide_eq_false (by rw [← HK0.out]; exact hkx)
                have HFIN := Aside0.mk (show spec_l03Apply.step xs (⟨x0, x1, false⟩ : S79) = (xs.take q ++ [(⟨x0, x1⟩ : S51)]) ++ (ys) by rw [spec_l03Apply.step, if_neg (by simp), spec_l03Apply.rest, if_neg (by rw [hhit]; simp), hpos, HYS.out] <;> simp [List.append_assoc])
                obtain ⟨Wd, hWd⟩ : ∃ Wd, Wd = w43.drew := ⟨_, rfl⟩
                rw [← hWd]
                have HT := Aside0.mk (show Kd.R k51 51 Wd w.heap.size (fun _ => True) (.slice (some ad5) q c4) (xs.take q) by rw [hWd]; exact Kd.R_take (Kd.R_drew HOd.out) hpl)
                have HBe := Aside0.mk (show Below w.heap.size w Wd by rw [hWd]; exact below_drew1 HBd.out)
                have HO9 := Aside0.mk (show Kd.R k51 51 Wd Wc.heap.size (fun _ => True) (.slice (some ad9) ys.length c9) ys by rw [hWd]; exact Kd.R_drew HO4.out)
                have HXe : Wd.heap[gb]? = some (.cells #[.string x0, .string x1, .bool false] 79 (0, 0)) := by rw [hWd]; exact HXd.out
                have u0 : Wd.cell? ⟨gb, 0, none⟩ = some (.string x0) := (blk_cell HXe 0).trans rfl
                have u1 : Wd.cell? ⟨gb, 1, none⟩ = some (.string x1) := (blk_cell HXe 1).trans rfl
                have u2 : Wd.cell? ⟨gb, 2, none⟩ = some (.bool false) := (blk_cell HXe 2).trans rfl
                have HYC := Aside0.mk (Kd.R_reads' HO9.out).2.1
                clear hWd hhit HXe
                go_wp2_with (first
                  | ((with_reducible refine gate_builtin (b := .append) (xs := #[.tmp 64, .tmp 70]) rfl ?_); at_builtin; refine Kd.R_append k51 (w0 := w) w.heap.size rfl (.tmp 64) (.tmp 70) 27 51 (.agg #[(.string ⟨#[]⟩), (.string ⟨#[]⟩)]) 32 rfl Try.underlying27 info51 rfl (by decide) (by decide) (.slice (some ad5) q c4) (xs.take q) (⟨x0, x1⟩ : S51) [.string x0, .string x1] (fun _ => True) (fun _ => False) rfl rfl (k51_mkM _ _ _ (⟨x0, x1⟩ : S51)) (fun _ hk => hk.elim) (fun _ _ => trivial) HT.out HBe.out HBe.out.size (by have := HLN.out; simp; omega) ?_; intro v71 w71 ho hb hg_ hat_; have HO71 := Aside0.mk ho; have HB71 := Aside0.mk hb; have HR71 := Aside0.mk (Ythacgkafdjnppaa.OpenFlat.R_kept spec_l03Apply.flat HO9.out hg_ (fun k hk he => HBLK.out k k hk he.symm rfl)); clear ho hb hg_ hat_)
                  | ((with_reducible refine gate_builtin (b := .append) (xs := #[.tmp 72, .tmp 73]) rfl ?_); at_builtin; refine Kd.R_append_rows k51 (w0 := w) w.heap.size rfl (.tmp 72) (.tmp 73) 27 51 (.agg #[(.string ⟨#[]⟩), (.string ⟨#[]⟩)]) 32 rfl Try.underlying27 info51 rfl (by decide) (by decide) v71 (xs.take q ++ [(⟨x0, x1⟩ : S51)]) (ys) (some ad9) ys.length c9 (fun _ => True) (fun _ => False) rfl rfl HO71.out (Kd.R_reads' HR71.out).2.2 (fun y cs h => by rw [k51_open h]; exact k51_mkM _ _ _ _) (fun _ h => h.elim) (fun _ _ => trivial) HB71.out HB71.out.size (by have := HLN.out; have := HYL.out; simp; omega) ?_; intro v74 w74 ho hb hg_ hn_; have HO74 := Aside0.mk ho; have HB74 := Aside0.mk hb; clear ho hb hg_ hn_))
                go_roundg (l1.length - (kk + 1))
                case measure => omega
                case rel => exact ⟨kk + 1, by omega, by omega, by go_num, ⟨by rw [HST.out, HFIN.out]; exact HO74.out⟩, HB74⟩
        · have hqz : ¬ (q : Int) < (xs.length : Int) := by omega
          obtain rfl : q = p := by omega
          cases x2 with
          | true =>
            go_wp2_with fail
            refine start_ (n := 14) (S := fun w' => w'.cell? ⟨gb, 0, none⟩ = some (.string x0)) (ds := []) #[false, false, false, false, false, false, false, false, false, false, false, false, false, false] (by kernel_rfl) rfl rfl (b0) (fun hHeld => ?_)
            refine pure_ (i := 0) (N := some 23) (v := ?_) (a' := ?_) #[true, false, false, false, false, false, false, false, false, false, false, false, false, false] rfl rfl (by kernel_rfl) (fun _ _ _ h => h) (Or.inl ⟨by rfl, ?_⟩) ?_ ?_
            rotate_left
            · intro w'; go_simp; with_reducible rfl
            rotate_left
            · simp only [Act.put, OpenRow.s1, OpenRow.s2, OpenRow.s3, i64_w, i32_w]; rfl
            refine pure_ (i := 1) (N := some 24) (v := ?_) (a' := ?_) #[true, true, false, false, false, false, false, false, false, false, false, false, false, false] rfl rfl (by kernel_rfl) (fun _ _ _ h => h) (Or.inl ⟨by rfl, ?_⟩) ?_ ?_
            rotate_left
            · intro w'; go_simp; with_reducible rfl
            rotate_left
            · simp only [Act.put, OpenRow.s1, OpenRow.s2, OpenRow.s3, i64_w, i32_w]; rfl
            refine pure_ (i := 2) (N := some 25) (v := ?_) (a' := ?_) #[true, true, true, false, false, false, false, false, false, false, false, false, false, false] rfl rfl (by kernel_rfl) (fun _ _ _ h => h) (Or.inl ⟨by rfl, ?_⟩) ?_ ?_
            rotate_left
            · intro w'; go_simp; with_reducible rfl
            rotate_left
            · simp only [Act.put, OpenRow.s1, OpenRow.s2, OpenRow.s3, i64_w, i32_w]; rfl
            refine pure_ (i := 3) (N := some 26) (v := ?_) (a' := ?_) #[true, true, true, true, false, false, false, false, false, false, false, false, false, false] rfl rfl (by kernel_rfl) (fun _ _ _ h => h) (Or.inl ⟨by rfl, ?_⟩) ?_ ?_
            rotate_left
            · intro w'; go_simp; with_reducible rfl
            rotate_left
            · simp only [Act.put, OpenRow.s1, OpenRow.s2, OpenRow.s3, i64_w, i32_w]; rfl
            refine pure_ (i := 4) (N := some 27) (v := ?_) (a' := ?_) #[true, true, true, true, true, false, false, false, false, false, false, false, false, false] rfl rfl (by kernel_rfl) (fun _ _ _ h => h) (Or.inl ⟨by rfl, ?_⟩) ?_ ?_
            rotate_left
            · intro w'; go_simp; with_reducible rfl
            rotate_left
            · simp only [Act.put, OpenRow.s1, OpenRow.s2, OpenRow.s3, i64_w, i32_w]; rfl
            refine pure_ (i := 5) (N := some 28) (v := undef) (a' := ?_) #[true, true, true, true, true, true, false, false, false, false, false, false, false, false] rfl rfl (by kernel_rfl) (fun _ _ _ h => h) (Or.inr ⟨by rfl, rfl⟩) ?_ ?_
            rotate_left
            · simp only [Act.put, OpenRow.s1, OpenRow.s2, OpenRow.s3, i64_w, i32_w]; rfl
            refine pure_ (i := 6) (N := some 29) (v := undef) (a' := ?_) #[true, true, true, true, true, true, true, false, false, false, false, false, false, false] rfl rfl (by kernel_rfl) (fun _ _ _ h => h) (Or.inr ⟨by rfl, rfl⟩) ?_ ?_
            rotate_left
            · simp only [Act.put, OpenRow.s1, OpenRow.s2, OpenRow.s3, i64_w, i32_w]; rfl
            refine pure_ (i := 7) (N := some 30) (v := undef) (a' := ?_) #[true, true, true, true, true, true, true, true, false, false, false, false, false, false] rfl rfl (by kernel_rfl) (fun _ _ _ h => h) (Or.inr ⟨by rfl, rfl⟩) ?_ ?_
            rotate_left
            · simp only [Act.put, OpenRow.s1, OpenRow.s2, OpenRow.s3, i64_w, i32_w]; rfl
            refine pure_ (i := 8) (N := some 31) (v := undef) (a' := ?_) #[true, true, true, true, true, true, true, true, true, false, false, false, false, false] rfl rfl (by kernel_rfl) (fun _ _ _ h => h) (Or.inr ⟨by rfl, rfl⟩) ?_ ?_
            rotate_left
            · simp only [Act.put, OpenRow.s1, OpenRow.s2, OpenRow.s3, i64_w, i32_w]; rfl
            refine pure_ (i := 9) (N := some 32) (v := undef) (a' := ?_) #[true, true, true, true, true, true, true, true, true, true, false, false, false, false] rfl rfl (by kernel_rfl) (fun _ _ _ h => h) (Or.inr ⟨by rfl, rfl⟩) ?_ ?_
            rotate_left
            · simp only [Act.put, OpenRow.s1, OpenRow.s2, OpenRow.s3, i64_w, i32_w]; rfl
            refine pure_ (i := 10) (N := some 33) (v := undef) (a' := ?_) #[true, true, true, true, true, true, true, true, true, true, true, false, false, false] rfl rfl (by kernel_rfl) (fun _ _ _ h => h) (Or.inr ⟨by rfl, rfl⟩) ?_ ?_
            rotate_left
            · simp only [Act.put, OpenRow.s1, OpenRow.s2, OpenRow.s3, i64_w, i32_w]; rfl
            refine pure_ (i := 11) (N := some 34) (v := undef) (a' := ?_) #[true, true, true, true, true, true, true, true, true, true, true, true, false, false] rfl rfl (by kernel_rfl) (fun _ _ _ h => h) (Or.inr ⟨by rfl, rfl⟩) ?_ ?_
            rotate_left
            · simp only [Act.put, OpenRow.s1, OpenRow.s2, OpenRow.s3, i64_w, i32_w]; rfl
            refine pure_ (i := 12) (N := some 35) (v := undef) (a' := ?_) #[true, true, true, true, true, true, true, true, true, true, true, true, true, false] rfl rfl (by kernel_rfl) (fun _ _ _ h => h) (Or.inr ⟨by rfl, rfl⟩) ?_ ?_
            rotate_left
            · simp only [Act.put, OpenRow.s1, OpenRow.s2, OpenRow.s3, i64_w, i32_w]; rfl
            refine pure_ (i := 13) (N := some 36) (v := ?_) (a' := ?_) #[true, true, true, true, true, true, true, true, true, true, true, true, true, true] rfl rfl (by kernel_rfl) (fun _ _ _ h => h) (Or.inl ⟨by rfl, ?_⟩) ?_ ?_
            rotate_left
            · intro w'; go_simp; with_reducible rfl
            rotate_left
            · simp only [Act.put, OpenRow.s1, OpenRow.s2, OpenRow.s3, i64_w, i32_w]; rfl
            refine done_ (by kernel_rfl) ?_
            obtain ⟨Wc, hWc⟩ : ∃ Wc, Wc = wr.drew := ⟨_, rfl⟩
            rw [← hWc]
            have HOc := Aside0.mk (show Kd.R k51 51 Wc w.heap.size (fun _ => True) (.slice A4 xs.length c4) xs by rw [hWc]; exact Kd.R_drew HO5.out)
            have HBc := Aside0.mk (show Below w.heap.size w Wc by rw [hWc]; exact below_drew1 HB5.out)
            have HXc := Aside0.mk (show Wc.heap[gb]? = some (.cells #[.string x0, .string x1, .bool true] 79 (0, 0)) by rw [hWc]; exact HX5.out)
            clear hWc
            have hlc4 : xs.length ≤ c4 := (Kd.R_reads' HOc.out).2.1
            obtain ⟨ys, hys⟩ : ∃ ys, ys = xs.drop q := ⟨_, rfl⟩
            have hyl : ys.length = xs.length - q := by rw [hys, List.length_drop]
            obtain ⟨AD, hAD⟩ : ∃ AD, (if c4 = q then A4 else (A4 : Option Addr).map (·.add (q * 2))) = AD := ⟨_, rfl⟩
            have hcD := fun W => Ythacgkafdjnppaa.OpenFlat.cut_any_l (P := Try.prog) 27 51 rfl rfl (sz := 2) rfl A4 xs.length c4 W .i64 q (q : Int) rfl hpl
            rw [hAD, ← hyl] at hcD
            have hcF := fun W => Ythacgkafdjnppaa.OpenFlat.cut_any_h (P := Try.prog) 27 51 rfl rfl (sz := 2) rfl A4 xs.length c4 W .i64 q (q : Int) rfl (by omega)
            have HCD := Aside0.mk (fun W (h : Kd.C k51 W A4 xs.length xs) => show Kd.C k51 W AD ys.length ys by have := Kd.C_drop h hpl hlc4; rw [← hAD, hys]; exact this)
            have HYL := Aside0.mk hyl
            have HYS := Aside0.mk hys
            clear hAD hys hyl
            go_wp2_with (first
              | ((with_reducible refine gate_dst (N := 39) rfl ?_); refine Kd.R_lit k51 (w0 := Wc) Wc.heap.size 51 ?hg (N := 39) ?hd (xs := []) (inner := []) (ok := fun _ => True) (okp := fun _ => True) ?hr ?hp (fun _ hk => hk) trivial (Below.refl _ _) (Nat.le_refl _) (by simp) ?_; (case hd => rfl); (case hg => rfl); (case hr => first | (go_simp; done) | (go_simp; rfl)); (case hp => exact (Reps.none _ _)); intro v39 w39 ho hb hg_ hn_; have HO39 := Aside0.mk ho; have HB39 := Aside0.mk hb; clear ho hb hg_ hn_)
              | ((with_reducible refine gate_builtin (b := .append) (xs := #[.tmp 39, .tmp 42]) rfl ?_); at_builtin; refine Kd.R_append_rows k51 (w0 := Wc) Wc.heap.size rfl (.tmp 39) (.tmp 42) 27 51 (.agg #[(.string ⟨#[]⟩), (.string ⟨#[]⟩)]) 32 rfl Try.underlying27 info51 rfl (by decide) (by decide) v39 [] ys AD ys.length (c4 - q) (fun _ => True) (fun _ => False) rfl rfl HO39.out (HCD.out _ (Kd.R_reads' (Kd.R_below HOc.out HB39.out)).2.2) (fun y cs h => by rw [k51_open h]; exact k51_mkM _ _ _ _) (fun _ h => h.elim) (fun _ _ => trivial) HB39.out HB39.out.size (by have := HLN.out; have := HYL.out; simp; omega) ?_; intro v43 w43 ho hb hg_ hn_; obtain ⟨A9, c9, rfl⟩ := Kd.R_slice ho; have HO43 := Aside0.mk ho; have HB43 := Aside0.mk hb; clear ho hb hg_ hn_))
            have HO4 := Aside0.mk (show Kd.R k51 51 w43 Wc.heap.size (fun _ => True) (.slice A9 ys.length c9) ys from HO43.out)
            have HOd := Aside0.mk (Kd.R_below HOc.out HB43.out)
            have HBd := Aside0.mk (below_step HBc.out HB43.out)
            have HXd := Aside0.mk ((HB43.out.block gb (blk_lt HXc.out)).trans HXc.out)
            have b10 : w43.cell? ⟨gb, 0, none⟩ = some (.string x0) := (blk_cell HXd.out 0).trans rfl
            have HBLK := Aside0.mk (show ∀ k k', (Value.slice A9 ys.length c9).ownBlock = some k → (Value.slice A4 q c4).ownBlock = some k' → k ≠ k' from fun k k' hk hk' => by
              have h1 := Kd.R_base HO43.out k hk
              have h2 := ((Kd.R_bound HOc.out).1 k' (by rw [Ythacgkafdjnppaa.OpenFlat.ownBlock_slice A4 xs.length c4 q c4]; exact hk')).2.2.1
              omega)
            have hy0z : ¬ (0 : Int) < (ys.length : Int) := by have := HYL.out; omega
            have hy0g : ¬ ((ys.length : Int) > 0) := by have := HYL.out; omega
            have hy0n : ¬ 0 < ys.length := by have := HYL.out; omega
            refine start_ (n := 12) (S := fun w' => w'.cell? ⟨gb, 0, none⟩ = some (.string x0)) (ds := []) #[false, false, false, false, false, false, false, false, false, false, false, false] (by kernel_rfl) rfl rfl (b10) (fun hHeld => ?_)
            refine pure_ (i := 0) (N := some 44) (v := ?_) (a' := ?_) #[true, false, false, false, false, false, false, false, false, false, false, false] rfl rfl (by kernel_rfl) (fun _ _ _ h => h) (Or.inl ⟨by rfl, ?_⟩) ?_ ?_
            rotate_left
            · intro w'; go_simp; with_reducible rfl
            rotate_left
            · simp only [Act.put, OpenRow.s1, OpenRow.s2, OpenRow.s3, i64_w, i32_w]; rfl
            refine pure_ (i := 1) (N := some 45) (v := ?_) (a' := ?_) #[true, true, false, false, false, false, false, false, false, false, false, false] rfl rfl (by kernel_rfl) (fun _ _ _ h => h) (Or.inl ⟨by rfl, ?_⟩) ?_ ?_
            rotate_left
            · intro w'; go_simp; with_reducible rfl
            rotate_left
            · simp only [Act.put, OpenRow.s1, OpenRow.s2, OpenRow.s3, i64_w, i32_w]; rfl
            refine pure_ (i := 2) (N := some 46) (v := ?_) (a' := ?_) #[true, true, true, false, false, false, false, false, false, false, false, false] rfl rfl (by kernel_rfl) (fun _ _ _ h => h) (Or.inl ⟨by rfl, ?_⟩) ?_ ?_
            rotate_left
            · intro w'; go_simp; with_reducible rfl
            rotate_left
            · simp only [Act.put, OpenRow.s1, OpenRow.s2, OpenRow.s3, i64_w, i32_w]; rfl
            refine pure_ (i := 3) (N := some 47) (v := ?_) (a' := ?_) #[true, true, true, true, false, false, false, false, false, false, false, false] rfl rfl (by kernel_rfl) (fun _ _ _ h => h) (Or.inl ⟨by rfl, ?_⟩) ?_ ?_
            rotate_left
            · intro w'; go_simp; with_reducible rfl
            rotate_left
            · simp only [Act.put, OpenRow.s1, OpenRow.s2, OpenRow.s3, i64_w, i32_w]; rfl
            refine pure_ (i := 4) (N := some 48) (v := undef) (a' := ?_) #[true, true, true, true, true, false, false, false, false, false, false, false] rfl rfl (by kernel_rfl) (fun _ _ _ h => h) (Or.inr ⟨by rfl, rfl⟩) ?_ ?_
            rotate_left
            · simp only [Act.put, OpenRow.s1, OpenRow.s2, OpenRow.s3, i64_w, i32_w]; rfl
            refine pure_ (i := 5) (N := some 49) (v := undef) (a' := ?_) #[true, true, true, true, true, true, false, false, false, false, false, false] rfl rfl (by kernel_rfl) (fun _ _ _ h => h) (Or.inr ⟨by rfl, rfl⟩) ?_ ?_
            rotate_left
            · simp only [Act.put, OpenRow.s1, OpenRow.s2, OpenRow.s3, i64_w, i32_w]; rfl
            refine pure_ (i := 6) (N := some 50) (v := undef) (a' := ?_) #[true, true, true, true, true, true, true, false, false, false, false, false] rfl rfl (by kernel_rfl) (fun _ _ _ h => h) (Or.inr ⟨by rfl, rfl⟩) ?_ ?_
            rotate_left
            · simp only [Act.put, OpenRow.s1, OpenRow.s2, OpenRow.s3, i64_w, i32_w]; rfl
            refine pure_ (i := 7) (N := some 51) (v := undef) (a' := ?_) #[true, true, true, true, true, true, true, true, false, false, false, false] rfl rfl (by kernel_rfl) (fun _ _ _ h => h) (Or.inr ⟨by rfl, rfl⟩) ?_ ?_
            rotate_left
            · simp only [Act.put, OpenRow.s1, OpenRow.s2, OpenRow.s3, i64_w, i32_w]; rfl
            refine pure_ (i := 8) (N := some 52) (v := undef) (a' := ?_) #[true, true, true, true, true, true, true, true, true, false, false, false] rfl rfl (by kernel_rfl) (fun _ _ _ h => h) (Or.inr ⟨by rfl, rfl⟩) ?_ ?_
            rotate_left
            · simp only [Act.put, OpenRow.s1, OpenRow.s2, OpenRow.s3, i64_w, i32_w]; rfl
            refine pure_ (i := 9) (N := some 53) (v := undef) (a' := ?_) #[true, true, true, true, true, true, true, true, true, true, false, false] rfl rfl (by kernel_rfl) (fun _ _ _ h => h) (Or.inr ⟨by rfl, rfl⟩) ?_ ?_
            rotate_left
            · simp only [Act.put, OpenRow.s1, OpenRow.s2, OpenRow.s3, i64_w, i32_w]; rfl
            refine pure_ (i := 10) (N := some 54) (v := undef) (a' := ?_) #[true, true, true, true, true, true, true, true, true, true, true, false] rfl rfl (by kernel_rfl) (fun _ _ _ h => h) (Or.inr ⟨by rfl, rfl⟩) ?_ ?_
            rotate_left
            · simp only [Act.put, OpenRow.s1, OpenRow.s2, OpenRow.s3, i64_w, i32_w]; rfl
            refine pure_ (i := 11) (N := some 55) (v := ?_) (a' := ?_) #[true, true, true, true, true, true, true, true, true, true, true, true] rfl rfl (by kernel_rfl) (fun _ _ _ h => h) (Or.inl ⟨by rfl, ?_⟩) ?_ ?_
            rotate_left
            · intro w'; go_simp; with_reducible rfl
            rotate_left
            · simp only [Act.put, OpenRow.s1, OpenRow.s2, OpenRow.s3, i64_w, i32_w]; rfl
            refine done_ (by kernel_rfl) ?_
            have hhit : spec_l03Apply.hit xs x0 = false := by unfold spec_l03Apply.hit; rw [hpos, decide_eq_false (by omega), Bool.false_and]
            have HFIN := Aside0.mk (show spec_l03Apply.step xs (⟨x0, x1, true⟩ : S79) = (xs.take q) ++ (ys) by rw [spec_l03Apply.step, if_pos rfl, spec_l03Apply.rest, if_neg (by rw [hhit]; simp), hpos, HYS.out] <;> simp [List.append_assoc])
            obtain ⟨Wd, hWd⟩ : ∃ Wd, Wd = w43.drew := ⟨_, rfl⟩
            rw [← hWd]
            have HT := Aside0.mk (show Kd.R k51 51 Wd w.heap.size (fun _ => True) (.slice A4 q c4) (xs.take q) by rw [hWd]; exact Kd.R_take (Kd.R_drew HOd.out) hpl)
            have HBe := Aside0.mk (show Below w.heap.size w Wd by rw [hWd]; exact below_drew1 HBd.out)
            have HO9 := Aside0.mk (show Kd.R k51 51 Wd Wc.heap.size (fun _ => True) (.slice A9 ys.length c9) ys by rw [hWd]; exact Kd.R_drew HO4.out)
            have HXe : Wd.heap[gb]? = some (.cells #[.string x0, .string x1, .bool true] 79 (0, 0)) := by rw [hWd]; exact HXd.out
            have u0 : Wd.cell? ⟨gb, 0, none⟩ = some (.string x0) := (blk_cell HXe 0).trans rfl
            have u1 : Wd.cell? ⟨gb, 1, none⟩ = some (.string x1) := (blk_cell HXe 1).trans rfl
            have u2 : Wd.cell? ⟨gb, 2, none⟩ = some (.bool true) := (blk_cell HXe 2).trans rfl
            have HYC := Aside0.mk (Kd.R_reads' HO9.out).2.1
            clear hWd hhit HXe
            go_wp2_with (first
              | ((with_reducible refine gate_builtin (b := .append) (xs := #[.tmp 72, .tmp 73]) rfl ?_); at_builtin; refine Kd.R_append_rows k51 (w0 := w) w.heap.size rfl (.tmp 72) (.tmp 73) 27 51 (.agg #[(.string ⟨#[]⟩), (.string ⟨#[]⟩)]) 32 rfl Try.underlying27 info51 rfl (by decide) (by decide) (.slice A4 q c4) (xs.take q) (ys) A9 ys.length c9 (fun _ => True) (fun _ => False) rfl rfl HT.out (Kd.R_reads' HO9.out).2.2 (fun y cs h => by rw [k51_open h]; exact k51_mkM _ _ _ _) (fun _ h => h.elim) (fun _ _ => trivial) HBe.out HBe.out.size (by have := HLN.out; have := HYL.out; simp; omega) ?_; intro v74 w74 ho hb hg_ hn_; have HO74 := Aside0.mk ho; have HB74 := Aside0.mk hb; clear ho hb hg_ hn_))
            go_roundg (l1.length - (kk + 1))
            case measure => omega
            case rel => exact ⟨kk + 1, by omega, by omega, by go_num, ⟨by rw [HST.out, HFIN.out]; exact HO74.out⟩, HB74⟩
          | false =>
            go_wp2_with fail
            refine start_ (n := 14) (S := fun w' => w'.cell? ⟨gb, 0, none⟩ = some (.string x0)) (ds := []) #[false, false, false, false, false, false, false, false, false, false, false, false, false, false] (by kernel_rfl) rfl rfl (b0) (fun hHeld => ?_)
            refine pure_ (i := 0) (N := some 23) (v := ?_) (a' := ?_) #[true, false, false, false, false, false, false, false, false, false, false, false, false, false] rfl rfl (by kernel_rfl) (fun _ _ _ h => h) (Or.inl ⟨by rfl, ?_⟩) ?_ ?_
            rotate_left
            · intro w'; go_simp; with_reducible rfl
            rotate_left
            · simp only [Act.put, OpenRow.s1, OpenRow.s2, OpenRow.s3, i64_w, i32_w]; rfl
            refine pure_ (i := 1) (N := some 24) (v := ?_) (a' := ?_) #[true, true, false, false, false, false, false, false, false, false, false, false, false, false] rfl rfl (by kernel_rfl) (fun _ _ _ h => h) (Or.inl ⟨by rfl, ?_⟩) ?_ ?_
            rotate_left
            · intro w'; go_simp; with_reducible rfl
            rotate_left
            · simp only [Act.put, OpenRow.s1, OpenRow.s2, OpenRow.s3, i64_w, i32_w]; rfl
            refine pure_ (i := 2) (N := some 25) (v := ?_) (a' := ?_) #[true, true, true, false, false, false, false, false, false, false, false, false, false, false] rfl rfl (by kernel_rfl) (fun _ _ _ h => h) (Or.inl ⟨by rfl, ?_⟩) ?_ ?_
            rotate_left
            · intro w'; go_simp; with_reducible rfl
            rotate_left
            · simp only [Act.put, OpenRow.s1, OpenRow.s2, OpenRow.s3, i64_w, i32_w]; rfl
            refine pure_ (i := 3) (N := some 26) (v := ?_) (a' := ?_) #[true, true, true, true, false, false, false, false, false, false, false, false, false, false] rfl rfl (by kernel_rfl) (fun _ _ _ h => h) (Or.inl ⟨by rfl, ?_⟩) ?_ ?_
            rotate_left
            · intro w'; go_simp; with_reducible rfl
            rotate_left
            · simp only [Act.put, OpenRow.s1, OpenRow.s2, OpenRow.s3, i64_w, i32_w]; rfl
            refine pure_ (i := 4) (N := some 27) (v := ?_) (a' := ?_) #[true, true, true, true, true, false, false, false, false, false, false, false, false, false] rfl rfl (by kernel_rfl) (fun _ _ _ h => h) (Or.inl ⟨by rfl, ?_⟩) ?_ ?_
            rotate_left
            · intro w'; go_simp; with_reducible rfl
            rotate_left
            · simp only [Act.put, OpenRow.s1, OpenRow.s2, OpenRow.s3, i64_w, i32_w]; rfl
            refine pure_ (i := 5) (N := some 28) (v := undef) (a' := ?_) #[true, true, true, true, true, true, false, false, false, false, false, false, false, false] rfl rfl (by kernel_rfl) (fun _ _ _ h => h) (Or.inr ⟨by rfl, rfl⟩) ?_ ?_
            rotate_left
            · simp only [Act.put, OpenRow.s1, OpenRow.s2, OpenRow.s3, i64_w, i32_w]; rfl
            refine pure_ (i := 6) (N := some 29) (v := undef) (a' := ?_) #[true, true, true, true, true, true, true, false, false, false, false, false, false, false] rfl rfl (by kernel_rfl) (fun _ _ _ h => h) (Or.inr ⟨by rfl, rfl⟩) ?_ ?_
            rotate_left
            · simp only [Act.put, OpenRow.s1, OpenRow.s2, OpenRow.s3, i64_w, i32_w]; rfl
            refine pure_ (i := 7) (N := some 30) (v := undef) (a' := ?_) #[true, true, true, true, true, true, true, true, false, false, false, false, false, false] rfl rfl (by kernel_rfl) (fun _ _ _ h => h) (Or.inr ⟨by rfl, rfl⟩) ?_ ?_
            rotate_left
            · simp only [Act.put, OpenRow.s1, OpenRow.s2, OpenRow.s3, i64_w, i32_w]; rfl
            refine pure_ (i := 8) (N := some 31) (v := undef) (a' := ?_) #[true, true, true, true, true, true, true, true, true, false, false, false, false, false] rfl rfl (by kernel_rfl) (fun _ _ _ h => h) (Or.inr ⟨by rfl, rfl⟩) ?_ ?_
            rotate_left
            · simp only [Act.put, OpenRow.s1, OpenRow.s2, OpenRow.s3, i64_w, i32_w]; rfl
            refine pure_ (i := 9) (N := some 32) (v := undef) (a' := ?_) #[true, true, true, true, true, true, true, true, true, true, false, false, false, false] rfl rfl (by kernel_rfl) (fun _ _ _ h => h) (Or.inr ⟨by rfl, rfl⟩) ?_ ?_
            rotate_left
            · simp only [Act.put, OpenRow.s1, OpenRow.s2, OpenRow.s3, i64_w, i32_w]; rfl
            refine pure_ (i := 10) (N := some 33) (v := undef) (a' := ?_) #[true, true, true, true, true, true, true, true, true, true, true, false, false, false] rfl rfl (by kernel_rfl) (fun _ _ _ h => h) (Or.inr ⟨by rfl, rfl⟩) ?_ ?_
            rotate_left
            · simp only [Act.put, OpenRow.s1, OpenRow.s2, OpenRow.s3, i64_w, i32_w]; rfl
            refine pure_ (i := 11) (N := some 34) (v := undef) (a' := ?_) #[true, true, true, true, true, true, true, true, true, true, true, true, false, false] rfl rfl (by kernel_rfl) (fun _ _ _ h => h) (Or.inr ⟨by rfl, rfl⟩) ?_ ?_
            rotate_left
            · simp only [Act.put, OpenRow.s1, OpenRow.s2, OpenRow.s3, i64_w, i32_w]; rfl
            refine pure_ (i := 12) (N := some 35) (v := undef) (a' := ?_) #[true, true, true, true, true, true, true, true, true, true, true, true, true, false] rfl rfl (by kernel_rfl) (fun _ _ _ h => h) (Or.inr ⟨by rfl, rfl⟩) ?_ ?_
            rotate_left
            · simp only [Act.put, OpenRow.s1, OpenRow.s2, OpenRow.s3, i64_w, i32_w]; rfl
            refine pure_ (i := 13) (N := some 36) (v := ?_) (a' := ?_) #[true, true, true, true, true, true, true, true, true, true, true, true, true, true] rfl rfl (by kernel_rfl) (fun _ _ _ h => h) (Or.inl ⟨by rfl, ?_⟩) ?_ ?_
            rotate_left
            · intro w'; go_simp; with_reducible rfl
            rotate_left
            · simp only [Act.put, OpenRow.s1, OpenRow.s2, OpenRow.s3, i64_w, i32_w]; rfl
            refine done_ (by kernel_rfl) ?_
            obtain ⟨Wc, hWc⟩ : ∃ Wc, Wc = wr.drew := ⟨_, rfl⟩
            rw [← hWc]
            have HOc := Aside0.mk (show Kd.R k51 51 Wc w.heap.size (fun _ => True) (.slice A4 xs.length c4) xs by rw [hWc]; exact Kd.R_drew HO5.out)
            have HBc := Aside0.mk (show Below w.heap.size w Wc by rw [hWc]; exact below_drew1 HB5.out)
            have HXc := Aside0.mk (show Wc.heap[gb]? = some (.cells #[.string x0, .string x1, .bool false] 79 (0, 0)) by rw [hWc]; exact HX5.out)
            clear hWc
            have hlc4 : xs.length ≤ c4 := (Kd.R_reads' HOc.out).2.1
            obtain ⟨ys, hys⟩ : ∃ ys, ys = xs.drop q := ⟨_, rfl⟩
            have hyl : ys.length = xs.length - q := by rw [hys, List.length_drop]
            obtain ⟨AD, hAD⟩ : ∃ AD, (if c4 = q then A4 else (A4 : Option Addr).map (·.add (q * 2))) = AD := ⟨_, rfl⟩
            have hcD := fun W => Ythacgkafdjnppaa.OpenFlat.cut_any_l (P := Try.prog) 27 51 rfl rfl (sz := 2) rfl A4 xs.length c4 W .i64 q (q : Int) rfl hpl
            rw [hAD, ← hyl] at hcD
            have hcF := fun W => Ythacgkafdjnppaa.OpenFlat.cut_any_h (P := Try.prog) 27 51 rfl rfl (sz := 2) rfl A4 xs.length c4 W .i64 q (q : Int) rfl (by omega)
            have HCD := Aside0.mk (fun W (h : Kd.C k51 W A4 xs.length xs) => show Kd.C k51 W AD ys.length ys by have := Kd.C_drop h hpl hlc4; rw [← hAD, hys]; exact this)
            have HYL := Aside0.mk hyl
            have HYS := Aside0.mk hys
            clear hAD hys hyl
            go_wp2_with (first
              | ((with_reducible refine gate_dst (N := 39) rfl ?_); refine Kd.R_lit k51 (w0 := Wc) Wc.heap.size 51 ?hg (N := 39) ?hd (xs := []) (inner := []) (ok := fun _ => True) (okp := fun _ => True) ?hr ?hp (fun _ hk => hk) trivial (Below.refl _ _) (Nat.le_refl _) (by simp) ?_; (case hd => rfl); (case hg => rfl); (case hr => first | (go_simp; done) | (go_simp; rfl)); (case hp => exact (Reps.none _ _)); intro v39 w39 ho hb hg_ hn_; have HO39 := Aside0.mk ho; have HB39 := Aside0.mk hb; clear ho hb hg_ hn_)
              | ((with_reducible refine gate_builtin (b := .append) (xs := #[.tmp 39, .tmp 42]) rfl ?_); at_builtin; refine Kd.R_append_rows k51 (w0 := Wc) Wc.heap.size rfl (.tmp 39) (.tmp 42) 27 51 (.agg #[(.string ⟨#[]⟩), (.string ⟨#[]⟩)]) 32 rfl Try.underlying27 info51 rfl (by decide) (by decide) v39 [] ys AD ys.length (c4 - q) (fun _ => True) (fun _ => False) rfl rfl HO39.out (HCD.out _ (Kd.R_reads' (Kd.R_below HOc.out HB39.out)).2.2) (fun y cs h => by rw [k51_open h]; exact k51_mkM _ _ _ _) (fun _ h => h.elim) (fun _ _ => trivial) HB39.out HB39.out.size (by have := HLN.out; have := HYL.out; simp; omega) ?_; intro v43 w43 ho hb hg_ hn_; obtain ⟨A9, c9, rfl⟩ := Kd.R_slice ho; have HO43 := Aside0.mk ho; have HB43 := Aside0.mk hb; clear ho hb hg_ hn_))
            have HO4 := Aside0.mk (show Kd.R k51 51 w43 Wc.heap.size (fun _ => True) (.slice A9 ys.length c9) ys from HO43.out)
            have HOd := Aside0.mk (Kd.R_below HOc.out HB43.out)
            have HBd := Aside0.mk (below_step HBc.out HB43.out)
            have HXd := Aside0.mk ((HB43.out.block gb (blk_lt HXc.out)).trans HXc.out)
            have b10 : w43.cell? ⟨gb, 0, none⟩ = some (.string x0) := (blk_cell HXd.out 0).trans rfl
            have HBLK := Aside0.mk (show ∀ k k', (Value.slice A9 ys.length c9).ownBlock = some k → (Value.slice A4 q c4).ownBlock = some k' → k ≠ k' from fun k k' hk hk' => by
              have h1 := Kd.R_base HO43.out k hk
              have h2 := ((Kd.R_bound HOc.out).1 k' (by rw [Ythacgkafdjnppaa.OpenFlat.ownBlock_slice A4 xs.length c4 q c4]; exact hk')).2.2.1
              omega)
            have hy0z : ¬ (0 : Int) < (ys.length : Int) := by have := HYL.out; omega
            have hy0g : ¬ ((ys.length : Int) > 0) := by have := HYL.out; omega
            have hy0n : ¬ 0 < ys.length := by have := HYL.out; omega
            refine start_ (n := 12) (S := fun w' => w'.cell? ⟨gb, 0, none⟩ = some (.string x0)) (ds := []) #[false, false, false, false, false, false, false, false, false, false, false, false] (by kernel_rfl) rfl rfl (b10) (fun hHeld => ?_)
            refine pure_ (i := 0) (N := some 44) (v := ?_) (a' := ?_) #[true, false, false, false, false, false, false, false, false, false, false, false] rfl rfl (by kernel_rfl) (fun _ _ _ h => h) (Or.inl ⟨by rfl, ?_⟩) ?_ ?_
            rotate_left
            · intro w'; go_simp; with_reducible rfl
            rotate_left
            · simp only [Act.put, OpenRow.s1, OpenRow.s2, OpenRow.s3, i64_w, i32_w]; rfl
            refine pure_ (i := 1) (N := some 45) (v := ?_) (a' := ?_) #[true, true, false, false, false, false, false, false, false, false, false, false] rfl rfl (by kernel_rfl) (fun _ _ _ h => h) (Or.inl ⟨by rfl, ?_⟩) ?_ ?_
            rotate_left
            · intro w'; go_simp; with_reducible rfl
            rotate_left
            · simp only [Act.put, OpenRow.s1, OpenRow.s2, OpenRow.s3, i64_w, i32_w]; rfl
            refine pure_ (i := 2) (N := some 46) (v := ?_) (a' := ?_) #[true, true, true, false, false, false, false, false, false, false, false, false] rfl rfl (by kernel_rfl) (fun _ _ _ h => h) (Or.inl ⟨by rfl, ?_⟩) ?_ ?_
            rotate_left
            · intro w'; go_simp; with_reducible rfl
            rotate_left
            · simp only [Act.put, OpenRow.s1, OpenRow.s2, OpenRow.s3, i64_w, i32_w]; rfl
            refine pure_ (i := 3) (N := some 47) (v := ?_) (a' := ?_) #[true, true, true, true, false, false, false, false, false, false, false, false] rfl rfl (by kernel_rfl) (fun _ _ _ h => h) (Or.inl ⟨by rfl, ?_⟩) ?_ ?_
            rotate_left
            · intro w'; go_simp; with_reducible rfl
            rotate_left
            · simp only [Act.put, OpenRow.s1, OpenRow.s2, OpenRow.s3, i64_w, i32_w]; rfl
            refine pure_ (i := 4) (N := some 48) (v := undef) (a' := ?_) #[true, true, true, true, true, false, false, false, false, false, false, false] rfl rfl (by kernel_rfl) (fun _ _ _ h => h) (Or.inr ⟨by rfl, rfl⟩) ?_ ?_
            rotate_left
            · simp only [Act.put, OpenRow.s1, OpenRow.s2, OpenRow.s3, i64_w, i32_w]; rfl
            refine pure_ (i := 5) (N := some 49) (v := undef) (a' := ?_) #[true, true, true, true, true, true, false, false, false, false, false, false] rfl rfl (by kernel_rfl) (fun _ _ _ h => h) (Or.inr ⟨by rfl, rfl⟩) ?_ ?_
            rotate_left
            · simp only [Act.put, OpenRow.s1, OpenRow.s2, OpenRow.s3, i64_w, i32_w]; rfl
            refine pure_ (i := 6) (N := some 50) (v := undef) (a' := ?_) #[true, true, true, true, true, true, true, false, false, false, false, false] rfl rfl (by kernel_rfl) (fun _ _ _ h => h) (Or.inr ⟨by rfl, rfl⟩) ?_ ?_
            rotate_left
            · simp only [Act.put, OpenRow.s1, OpenRow.s2, OpenRow.s3, i64_w, i32_w]; rfl
            refine pure_ (i := 7) (N := some 51) (v := undef) (a' := ?_) #[true, true, true, true, true, true, true, true, false, false, false, false] rfl rfl (by kernel_rfl) (fun _ _ _ h => h) (Or.inr ⟨by rfl, rfl⟩) ?_ ?_
            rotate_left
            · simp only [Act.put, OpenRow.s1, OpenRow.s2, OpenRow.s3, i64_w, i32_w]; rfl
            refine pure_ (i := 8) (N := some 52) (v := undef) (a' := ?_) #[true, true, true, true, true, true, true, true, true, false, false, false] rfl rfl (by kernel_rfl) (fun _ _ _ h => h) (Or.inr ⟨by rfl, rfl⟩) ?_ ?_
            rotate_left
            · simp only [Act.put, OpenRow.s1, OpenRow.s2, OpenRow.s3, i64_w, i32_w]; rfl
            refine pure_ (i := 9) (N := some 53) (v := undef) (a' := ?_) #[true, true, true, true, true, true, true, true, true, true, false, false] rfl rfl (by kernel_rfl) (fun _ _ _ h => h) (Or.inr ⟨by rfl, rfl⟩) ?_ ?_
            rotate_left
            · simp only [Act.put, OpenRow.s1, OpenRow.s2, OpenRow.s3, i64_w, i32_w]; rfl
            refine pure_ (i := 10) (N := some 54) (v := undef) (a' := ?_) #[true, true, true, true, true, true, true, true, true, true, true, false] rfl rfl (by kernel_rfl) (fun _ _ _ h => h) (Or.inr ⟨by rfl, rfl⟩) ?_ ?_
            rotate_left
            · simp only [Act.put, OpenRow.s1, OpenRow.s2, OpenRow.s3, i64_w, i32_w]; rfl
            refine pure_ (i := 11) (N := some 55) (v := ?_) (a' := ?_) #[true, true, true, true, true, true, true, true, true, true, true, true] rfl rfl (by kernel_rfl) (fun _ _ _ h => h) (Or.inl ⟨by rfl, ?_⟩) ?_ ?_
            rotate_left
            · intro w'; go_simp; with_reducible rfl
            rotate_left
            · simp only [Act.put, OpenRow.s1, OpenRow.s2, OpenRow.s3, i64_w, i32_w]; rfl
            refine done_ (by kernel_rfl) ?_
            have hhit : spec_l03Apply.hit xs x0 = false := by unfold spec_l03Apply.hit; rw [hpos, decide_eq_false (by omega), Bool.false_and]
            have HFIN := Aside0.mk (show spec_l03Apply.step xs (⟨x0, x1, false⟩ : S79) = (xs.take q ++ [(⟨x0, x1⟩ : S51)]) ++ (ys) by rw [spec_l03Apply.step, if_neg (by simp), spec_l03Apply.rest, if_neg (by rw [hhit]; simp), hpos, HYS.out] <;> simp [List.append_assoc])
            obtain ⟨Wd, hWd⟩ : ∃ Wd, Wd = w43.drew := ⟨_, rfl⟩
            rw [← hWd]
            have HT := Aside0.mk (show Kd.R k51 51 Wd w.heap.size (fun _ => True) (.slice A4 q c4) (xs.take q) by rw [hWd]; exact Kd.R_take (Kd.R_drew HOd.out) hpl)
            have HBe := Aside0.mk (show Below w.heap.size w Wd by rw [hWd]; exact below_drew1 HBd.out)
            have HO9 := Aside0.mk (show Kd.R k51 51 Wd Wc.heap.size (fun _ => True) (.slice A9 ys.length c9) ys by rw [hWd]; exact Kd.R_drew HO4.out)
            have HXe : Wd.heap[gb]? = some (.cells #[.string x0, .string x1, .bool false] 79 (0, 0)) := by rw [hWd]; exact HXd.out
            have u0 : Wd.cell? ⟨gb, 0, none⟩ = some (.string x0) := (blk_cell HXe 0).trans rfl
            have u1 : Wd.cell? ⟨gb, 1, none⟩ = some (.string x1) := (blk_cell HXe 1).trans rfl
            have u2 : Wd.cell? ⟨gb, 2, none⟩ = some (.bool false) := (blk_cell HXe 2).trans rfl
            have HYC := Aside0.mk (Kd.R_reads' HO9.out).2.1
            clear hWd hhit HXe
            go_wp2_with (first
              | ((with_reducible refine gate_builtin (b := .append) (xs := #[.tmp 64, .tmp 70]) rfl ?_); at_builtin; refine Kd.R_append k51 (w0 := w) w.heap.size rfl (.tmp 64) (.tmp 70) 27 51 (.agg #[(.string ⟨#[]⟩), (.string ⟨#[]⟩)]) 32 rfl Try.underlying27 info51 rfl (by decide) (by decide) (.slice A4 q c4) (xs.take q) (⟨x0, x1⟩ : S51) [.string x0, .string x1] (fun _ => True) (fun _ => False) rfl rfl (k51_mkM _ _ _ (⟨x0, x1⟩ : S51)) (fun _ hk => hk.elim) (fun _ _ => trivial) HT.out HBe.out HBe.out.size (by have := HLN.out; simp; omega) ?_; intro v71 w71 ho hb hg_ hat_; have HO71 := Aside0.mk ho; have HB71 := Aside0.mk hb; have HR71 := Aside0.mk (Ythacgkafdjnppaa.OpenFlat.R_kept spec_l03Apply.flat HO9.out hg_ (fun k hk he => HBLK.out k k hk he.symm rfl)); clear ho hb hg_ hat_)
              | ((with_reducible refine gate_builtin (b := .append) (xs := #[.tmp 72, .tmp 73]) rfl ?_); at_builtin; refine Kd.R_append_rows k51 (w0 := w) w.heap.size rfl (.tmp 72) (.tmp 73) 27 51 (.agg #[(.string ⟨#[]⟩), (.string ⟨#[]⟩)]) 32 rfl Try.underlying27 info51 rfl (by decide) (by decide) v71 (xs.take q ++ [(⟨x0, x1⟩ : S51)]) (ys) A9 ys.length c9 (fun _ => True) (fun _ => False) rfl rfl HO71.out (Kd.R_reads' HR71.out).2.2 (fun y cs h => by rw [k51_open h]; exact k51_mkM _ _ _ _) (fun _ h => h.elim) (fun _ _ => trivial) HB71.out HB71.out.size (by have := HLN.out; have := HYL.out; simp; omega) ?_; intro v74 w74 ho hb hg_ hn_; have HO74 := Aside0.mk ho; have HB74 := Aside0.mk hb; clear ho hb hg_ hn_))
            go_roundg (l1.length - (kk + 1))
            case measure => omega
            case rel => exact ⟨kk + 1, by omega, by omega, by go_num, ⟨by rw [HST.out, HFIN.out]; exact HO74.out⟩, HB74⟩
    · have hltz : ¬ (kk : Int) < (l1.length : Int) := by omega
      obtain rfl : kk = l1.length := by omega
      have HO6 := HO
      rw [List.take_length] at HO6
      clear HO
      go_wp2
      go_ret
      exact ⟨_, rfl, HO6.out, HB.out⟩
end Go.Proofs.Ythacgkafdjnppaa.XU
