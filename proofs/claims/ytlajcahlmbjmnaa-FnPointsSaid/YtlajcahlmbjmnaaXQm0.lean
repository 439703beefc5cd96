-- Walks of the functions that the law reaches. Joined by a program of this session. Lean checks it.
import Derived.Test.YtlajcahlmbjmnaaProg
import Derived.Below
import Derived.Deep.Draws
import Derived.Deep.AppendLies
import Derived.Maps.AppendAt
import Derived.OwnWalk
import Derived.Laws.BytesArg
import Derived.Laws.MakeOwn
import Derived.Laws.OwnMore
import Derived.Deep.OwnRows
import Derived.Tactics
import Derived.Lib.ConvBytes
import Derived.Laws.Slices
import Derived.WalkKit
import Derived.KernelRfl
import Derived.RowKit3
import Derived.Deep.LoopGhost
import Derived.Deep.QuietTactic
import Derived.BigQuiet
import Derived.WideLaws
import Derived.Deep.DeepCutAuto
import Derived.Deep.CutBlock
import Derived.Deep.RegionHeld3
import Derived.Laws.Rows
import Derived.Lib.AppendStr
import Derived.ArgAppend
import Derived.Laws.IdiomCopy
import Derived.OrdersHeld
import Derived.Laws.BitsLemmas
import Derived.RowKit
import Derived.Test.YtlajcahlmbjmnaaYLimb
import Derived.Test.YtlajcahlmbjmnaaYArr
import Derived.Test.YtlajcahlmbjmnaaYFldA
import Derived.Test.YtlajcahlmbjmnaaYFldB
import Derived.Test.YtlajcahlmbjmnaaYFldC
import Derived.Test.YtlajcahlmbjmnaaYFldS
import Derived.Test.YtlajcahlmbjmnaaYFldP
import Derived.Test.YtlajcahlmbjmnaaYFldW
import Derived.Test.YtlajcahlmbjmnaaYFldM
import Derived.Test.YtlajcahlmbjmnaaYFldT
import Derived.Test.YtlajcahlmbjmnaaYFldRoot
import Derived.Test.YtlajcahlmbjmnaaYFldRoot2
import Derived.Test.YtlajcahlmbjmnaaYFldPt
import Derived.Test.YtlajcahlmbjmnaaYSt
import Derived.Test.YtlajcahlmbjmnaaYOpenS
import Derived.Test.YtlajcahlmbjmnaaYStOps
import Derived.Test.YtlajcahlmbjmnaaYStMid
import Derived.Test.YtlajcahlmbjmnaaYStEq
import Derived.Test.YtlajcahlmbjmnaaYStPt
import Derived.Test.YtlajcahlmbjmnaaYStIdx
import Derived.Test.YtlajcahlmbjmnaaYStSrc
import Derived.Test.YtlajcahlmbjmnaaYFldOps
import Derived.Test.YtlajcahlmbjmnaaYFldOpsS
import Derived.Test.YtlajcahlmbjmnaaYStChain
import Derived.Test.YtlajcahlmbjmnaaYFldLaw
import Derived.Test.YtlajcahlmbjmnaaYFldSqrt
import Derived.Test.YtlajcahlmbjmnaaYFldDec
import Derived.Test.YtlajcahlmbjmnaaYFldGrp
import Derived.Test.YtlajcahlmbjmnaaYMathAll
import Derived.Test.YtlajcahlmbjmnaaVAll
namespace Go.Proofs.Ytlajcahlmbjmnaa.XQ
open Go.Proofs.Ytlajcahlmbjmnaa.Limb Go.Proofs.Ytlajcahlmbjmnaa.Arr Go.Proofs.Ytlajcahlmbjmnaa.FldA Go.Proofs.Ytlajcahlmbjmnaa.FldB Go.Proofs.Ytlajcahlmbjmnaa.FldC Go.Proofs.Ytlajcahlmbjmnaa.FldS Go.Proofs.Ytlajcahlmbjmnaa.FldP Go.Proofs.Ytlajcahlmbjmnaa.FldW Go.Proofs.Ytlajcahlmbjmnaa.FldM Go.Proofs.Ytlajcahlmbjmnaa.FldT Go.Proofs.Ytlajcahlmbjmnaa.FldRoot Go.Proofs.Ytlajcahlmbjmnaa.FldRoot2 Go.Proofs.Ytlajcahlmbjmnaa.FldPt Go.Proofs.Ytlajcahlmbjmnaa.St Go.Proofs.Ytlajcahlmbjmnaa.OpenS Go.Proofs.Ytlajcahlmbjmnaa.StOps Go.Proofs.Ytlajcahlmbjmnaa.StMid Go.Proofs.Ytlajcahlmbjmnaa.StEq Go.Proofs.Ytlajcahlmbjmnaa.StPt Go.Proofs.Ytlajcahlmbjmnaa.StIdx Go.Proofs.Ytlajcahlmbjmnaa.StSrc Go.Proofs.Ytlajcahlmbjmnaa.FldOps Go.Proofs.Ytlajcahlmbjmnaa.FldOpsS Go.Proofs.Ytlajcahlmbjmnaa.StChain Go.Proofs.Ytlajcahlmbjmnaa.FldLaw Go.Proofs.Ytlajcahlmbjmnaa.FldSqrt Go.Proofs.Ytlajcahlmbjmnaa.FldDec Go.Proofs.Ytlajcahlmbjmnaa.FldGrp Go.Proofs.Ytlajcahlmbjmnaa.Edw Go.Proofs.Ytlajcahlmbjmnaa.EdP
open Go.RowKit Go.Proofs.YtlajcahlmbjmnaaW.PrintWords Go.Proofs.YtlajcahlmbjmnaaW.PrintLast Go.Proofs.YtlajcahlmbjmnaaW.PrintMore
attribute [local go_sem] max2_int min2_int max_two min_two max_three min_three max_four min_four   -- for this text's walks alone
set_option linter.unusedVariables false
set_option linter.unusedSimpArgs false
def errW : Option Int → Value
  | none => .nilIface
  | some c => .iface 0 (.int .i64 c)
theorem errW_none : errW none = .nilIface := rfl
theorem errW_some (c : Int) : errW (some c) = .iface 0 (.int .i64 c) := rfl
theorem info3 : (Try.prog.info? 3).map (fun i => (i.zero, i.size, i.bytes)) = some (some (.int .i64 0), 1, 8) := by kernel_rfl
theorem info5 : (Try.prog.info? 5).map (fun i => (i.zero, i.size, i.bytes)) = some (some (.int .u8 0), 1, 1) := by kernel_rfl
set_option maxHeartbeats 1000000 in
set_option maxRecDepth 100000 in
theorem l00Source.calls (A : Option Addr) (c : Nat) (code : List Int) (w : World) (hl : code.length < 1099511627776) :
    Calls Try.prog 12 #[.slice A code.length c] w fun e w' => e = .returned (.pointer (some ⟨w.heap.size, 0, none⟩)) ∧ w' = w.alloc (.cells #[.slice A code.length c, .int .i64 0, .int .i64 (sdN code 0)] 58) := by
  have HS := Aside0.mk (show (code.length : Int) % 1000 = sdN code 0 from rfl)
  have hr := sdN_range code 0
  have hr1 := hr.1
  have hr2 := hr.2
  clear hr
  rw [← HS.out] at hr1 hr2
  have q2 : (code.length : Int).tmod 1000 = sdN code 0 := by rw [Int.tmod_eq_emod_of_nonneg (by omega)]; rfl
  have q1 : (code.length : Int) % 1000 = sdN code 0 := rfl
  rw [q1] at hr1 hr2
  generalize sdN code 0 = s0 at *
  have wr_ : IntKind.i64.wrap s0 = s0 := by rw [IntKind.wrap_i64]; omega
  clear HS
  go_enter Try.func12, Try.ntmps12
  go_wp2
  go_ret
  exact ⟨rfl, rfl⟩
set_option maxHeartbeats 400000 in
set_option maxRecDepth 100000 in
theorem spec_l05Carry.calls (xs : List Int) (w : World) (hb : Bd xs) (hl : xs.length = 16) :
    Calls Try.prog 58 #[.agg (arr .i64 xs)] w fun e w' => e = .returned (.agg (arr .i64 (carN xs 3))) ∧ Below w.heap.size w w' := by
  have HB := Aside0.mk hb
  have HL := Aside0.mk hl
  clear hb hl
  go_enter Try.func58, Try.ntmps58
  go_wp2
  go_loopg [3, 4, 5, 6] 3 (fun gg v3 _ _ _ wr => ∃ n : Nat, n ≤ 3 ∧ 3 - n ≤ gg ∧ v3 = .int .i64 n ∧ Aside0 (St w [⟨41, .i64, carN xs n⟩, ⟨41, .i64, z16⟩] wr))
  case atStart =>
    exact ⟨0, by omega, by omega, rfl, ⟨((St.start w).push rfl 41 .i64 xs).push (World.size_alloc ..) 41 .i64 z16⟩⟩
  case round =>
    obtain ⟨n, hn, hg, rfl, S⟩ := hrel
    by_cases hlt : n < 3
    · have hlti : (n : Int) < 3 := by omega
      have hbd := carN_bd xs HB.out HL.out n
      have EN := Aside0.mk (show carN xs (n + 1) = carR (carN xs n) from rfl)
      generalize carN xs n = ys at *
      have YB := Aside0.mk hbd.1
      have YL := Aside0.mk hbd.2
      clear hbd
      go_wp2
      go_loopg [4, 5, 6] 16 (fun gg2 v4 v5 _ wr2 => ∃ k : Nat, k ≤ 16 ∧ 16 - k ≤ gg2 ∧ v5 = .int .i64 k ∧ v4 = .int .i64 (carS ys k).2 ∧ Aside0 (St w [⟨41, .i64, (carS ys k).1⟩, ⟨41, .i64, z16⟩] wr2))
      case atStart => exact ⟨0, by omega, by omega, rfl, rfl, S⟩
      case round =>
        obtain ⟨k, hk, hg2, rfl, rfl, S2⟩ := hrel
        have hcb := carS_bd ys YB.out k
        have hkb := hcb.1 k
        by_cases hlt2 : k < 16
        · have hlti2 : (k : Int) < 16 := by omega
          have hc1 := S2.out.cell 0 rfl k (by have := YL.out; rw [carS_length]; omega)
          have hf1 := blk_frozen (S2.out.blk 0 rfl) k
          rw [Nat.add_zero] at hc1 hf1
          have P := Aside0.mk (S2.out.set 0 rfl k (((carS ys k).1.getD k 0 + (carS ys k).2) - ((carS ys k).1.getD k 0 + (carS ys k).2) / 65536 * 65536))
          have EQ := Aside0.mk (show carS ys (k + 1) = ((carS ys k).1.set k (((carS ys k).1.getD k 0 + (carS ys k).2) - ((carS ys k).1.getD k 0 + (carS ys k).2) / 65536 * 65536), ((carS ys k).1.getD k 0 + (carS ys k).2) / 65536) from rfl)
          have a1 := hkb.1
          have a2 := hkb.2
          have a3 := hcb.2.1
          have a4 := hcb.2.2
          clear hcb hkb
          generalize (carS ys k).1.getD k 0 = a at *
          generalize (carS ys k).2 = c at *
          have b1 : -4503737066323969 ≤ a + c := by omega
          have b2 : a + c ≤ 4503737066323969 := by omega
          have q1 : -68721573900 ≤ (a + c) / 65536 := by omega
          have q2 : (a + c) / 65536 ≤ 68721573900 := by omega
          go_wp2
          go_roundg (16 - (k + 1))
          case measure => omega
          case rel => refine ⟨k + 1, by omega, by omega, by go_num, ?_, by rw [EQ.out]; exact P⟩; rw [EQ.out]
        · obtain rfl : k = 16 := by omega
          have hneg : ¬ ((16 : Nat) : Int) < 16 := by omega
          have h0 := hcb.1 0
          have hc1 := S2.out.cell 0 rfl 0 (by have := YL.out; rw [carS_length]; omega)
          have hf1 := blk_frozen (S2.out.blk 0 rfl) 0
          rw [Nat.add_zero] at hc1 hf1
          have P := Aside0.mk (S2.out.set 0 rfl 0 ((carS ys 16).1.getD 0 0 + 38 * (carS ys 16).2))
          have EQ := Aside0.mk (show carR ys = (carS ys 16).1.set 0 ((carS ys 16).1.getD 0 0 + 38 * (carS ys 16).2) from rfl)
          have a1 := h0.1
          have a2 := h0.2
          have a3 := hcb.2.1
          have a4 := hcb.2.2
          clear hcb hkb h0
          generalize (carS ys 16).1.getD 0 0 = a at *
          generalize (carS ys 16).2 = c at *
          go_wp2
          go_roundg (3 - (n + 1))
          case measure => omega
          case rel => exact ⟨n + 1, by omega, by omega, by go_num, by rw [EN.out, EQ.out]; exact P⟩
    · obtain rfl : n = 3 := by omega
      have hneg : ¬ ((3 : Nat) : Int) < 3 := by omega
      have B0 := Aside0.mk (S.out.blk 0 rfl)
      have B1 := Aside0.mk (S.out.blk 1 rfl)
      have L := Aside0.mk (carN_bd xs HB.out HL.out 3).2
      go_wp2_with (first
        | ((with_reducible refine gate_dst (N := 34) rfl ?_); refine ld_arr rfl 41 (.tmp 1) rfl w.heap.size rfl B0.out Try.underlying41 (m := 16) (by kernel_rfl) L.out ?_)
        | (refine st_arr rfl 41 (.tmp 2) (.tmp 34) rfl (w.heap.size + 1) (xs := carN xs 3) rfl rfl B1.out (m := 16) (by kernel_rfl) L.out (by rw [L.out]; rfl) ?_; intro w' h1 h2 h4 h3; have H1 := Aside0.mk h1; have H3 := Aside0.mk h3; clear h1 h2 h3 h4))
      exact bodyPost_ret (results_cell_row Try.results58 _ _ (w.heap.size + 1) 41 _ (0, 0) _ rfl H1.out Try.underlying41 rfl (by rw [arr_size, L.out]; kernel_rfl)) rfl ⟨rfl, H3.out _ _ S.out.below (by omega)⟩
set_option maxHeartbeats 400000 in
set_option maxRecDepth 100000 in
theorem spec_l05Add.calls (x y : Nat) (w : World) (hx : x < BB) (hy : y < BB) :
    Calls Try.prog 21 #[.agg (arr .i64 (fe x)), .agg (arr .i64 (fe y))] w fun e w' => ∃ c, c < BB ∧ c % PP = (x + y) % PP ∧ e = .returned (.agg (arr .i64 (fe c))) ∧ Below w.heap.size w w' := by
  obtain ⟨c, hc1, hc2, hc3⟩ := add_fe x y hx hy
  have HC := Aside0.mk (fun W => spec_l05Carry.calls (FldC.addS (fe x) (fe y) 16) W (addS_bd x y 16) (by rw [addS_length, fe_length]))
  rw [hc2] at HC
  refine Calls.mono (R := fun e w' => e = .returned (.agg (arr .i64 (fe c))) ∧ Below w.heap.size w w') ?_ (fun e w' h => ⟨c, hc1, hc3, h⟩)
  clear hc1 hc2 hc3 hx hy
  have HE := Aside0.mk (fun k => addS_rest (fe x) (fe y) k k (Nat.le_refl k))
  have RX := Aside0.mk (fe_getD x)
  have RY := Aside0.mk (fe_getD y)
  have LS := Aside0.mk (fun k => (addS_length (fe x) (fe y) k).trans (fe_length x))
  have LX := Aside0.mk (fe_length x)
  have LY := Aside0.mk (fe_length y)
  have HS := Aside0.mk (fun k => show FldC.addS (fe x) (fe y) (k + 1) = (FldC.addS (fe x) (fe y) k).set k ((FldC.addS (fe x) (fe y) k).getD k 0 + (fe y).getD k 0) from rfl)
  have H0 := Aside0.mk (show FldC.addS (fe x) (fe y) 0 = fe x from rfl)
  generalize FldC.addS (fe x) (fe y) = A at *
  generalize fe x = xs at *
  generalize fe y = ys at *
  generalize hf : fe c = zs at *
  have LZ := Aside0.mk (hf ▸ fe_length c)
  clear hf
  go_enter Try.func21, Try.ntmps21
  go_wp2
  go_loopg [5] 16 (fun gg v5 wr => ∃ k : Nat, k ≤ 16 ∧ 16 - k ≤ gg ∧ v5 = .int .i64 k ∧ Aside0 (St w [⟨41, .i64, A k⟩, ⟨41, .i64, ys⟩, ⟨41, .i64, z16⟩] wr))
  case atStart =>
    refine ⟨0, by omega, by omega, rfl, ?_⟩
    rw [H0.out]
    exact ⟨(((St.start w).push rfl 41 .i64 xs).push (World.size_alloc ..) 41 .i64 ys).push (by rw [World.size_alloc, World.size_alloc]; rfl) 41 .i64 z16⟩
  case round =>
    obtain ⟨k, hk, hg, rfl, S⟩ := hrel
    by_cases hlt : k < 16
    · have hlti : (k : Int) < 16 := by omega
      have hc1 := S.out.cell 0 rfl k (by rw [LS.out]; omega)
      have hf1 := blk_frozen (S.out.blk 0 rfl) k
      rw [Nat.add_zero] at hc1 hf1
      have hc2 := S.out.cell 1 rfl k (by rw [LY.out]; omega)
      have a := RX.out k
      have b := RY.out k
      have a1 := a.1
      have a2 := a.2
      have b1 := b.1
      have b2 := b.2
      rw [HE.out k] at hc1
      have P := Aside0.mk ((S.out.set 0 rfl k (xs.getD k 0 + ys.getD k 0)).drew)
      have EQ := Aside0.mk ((HS.out k).trans (by rw [HE.out k]))
      clear a b
      generalize xs.getD k 0 = a at *
      generalize ys.getD k 0 = b at *
      go_wp2
      go_region
      go_wp2
      go_roundg (16 - (k + 1))
      case measure => omega
      case rel => exact ⟨k + 1, by omega, by omega, by go_num, by rw [EQ.out]; exact P⟩
    · have hk16 : k = 16 := by omega
      subst hk16
      have hneg : ¬ ((16 : Nat) : Int) < 16 := by omega
      go_wp2_with (first
        | ((with_reducible refine gate_dst (N := 18) rfl ?_); refine ld_arr rfl 41 (.tmp 2) rfl w.heap.size rfl (S.out.blk 0 rfl) Try.underlying41 (m := 16) (by kernel_rfl) (LS.out _) ?_)
        | ((with_reducible refine (HC.out _).mono ?_); rintro e w1 ⟨rfl, hb⟩; have S1 := Aside0.mk (S.out.step hb); clear hb)
        | (refine st_arr rfl 41 (.tmp 4) (.tmp 19) rfl (w.heap.size + 2) (xs := zs) rfl rfl (S1.out.blk 2 rfl) (m := 16) (by kernel_rfl) LZ.out (by rw [LZ.out]; rfl) ?_; intro w' h1 h2 h4 h3; have H1 := Aside0.mk h1; have S2 := Aside0.mk (S1.out.row 2 rfl h1 h2 h3); clear h1 h2 h3 h4))
      exact bodyPost_ret (results_cell_row Try.results21 _ _ (w.heap.size + 2) 41 _ (0, 0) _ rfl H1.out Try.underlying41 rfl (by rw [arr_size, LZ.out]; kernel_rfl)) rfl ⟨rfl, S2.out.below⟩
set_option maxHeartbeats 1000000 in
set_option maxRecDepth 100000 in
theorem spec_l05Mul.calls (x y : Nat) (w : World) (hx : x < BB) (hy : y < BB) :
    Calls Try.prog 51 #[.agg (arr .i64 (fe x)), .agg (arr .i64 (fe y))] w fun e w' => ∃ c, c < BB ∧ c % PP = x * y % PP ∧ e = .returned (.agg (arr .i64 (fe c))) ∧ Below w.heap.size w w' := by
  obtain ⟨hbd, c, hc1, hc2, hc3⟩ := mul_fe x y hx hy
  have HC := Aside0.mk (fun W => spec_l05Carry.calls (mulT x y) W hbd (by unfold mulT; exact fldS_length _ _))
  rw [hc2] at HC
  refine Calls.mono (R := fun e w' => e = .returned (.agg (arr .i64 (fe c))) ∧ Below w.heap.size w w') ?_ (fun e w' h => ⟨c, hc1, hc3, h⟩)
  clear hc1 hc2 hc3 hx hy hbd
  have RX := Aside0.mk (fe_getD x)
  have RY := Aside0.mk (fe_getD y)
  have LX := Aside0.mk (fe_length x)
  have LY := Aside0.mk (fe_length y)
  have NW := Aside0.mk (mulW_nb x y)
  have NR := Aside0.mk (fun i k => mulR_nb x y i (mulW (fe x) (fe y) i) _ (mulW_nb x y i) k)
  have LW := Aside0.mk (mulW_length (fe x) (fe y))
  have LR := Aside0.mk (fun i k => (mulR_length (fe x) (fe y) (mulW (fe x) (fe y) i) i k).trans (mulW_length _ _ i))
  have SW := Aside0.mk (fun i => show mulW (fe x) (fe y) (i + 1) = mulR (fe x) (fe y) i (mulW (fe x) (fe y) i) 16 from by simp only [mulW])
  have SR := Aside0.mk (fun i k => show mulR (fe x) (fe y) i (mulW (fe x) (fe y) i) (k + 1) = (mulR (fe x) (fe y) i (mulW (fe x) (fe y) i) k).set (i + k) ((mulR (fe x) (fe y) i (mulW (fe x) (fe y) i) k).getD (i + k) 0 + (fe x).getD i 0 * (fe y).getD k 0) from rfl)
  have R0 := Aside0.mk (fun i => show mulR (fe x) (fe y) i (mulW (fe x) (fe y) i) 0 = mulW (fe x) (fe y) i from rfl)
  have W0 := Aside0.mk (show mulW (fe x) (fe y) 0 = List.replicate 32 0 from rfl)
  have HT := Aside0.mk (show mulT x y = fldS (mulW (fe x) (fe y) 16) 16 from rfl)
  generalize mulT x y = ts at *
  generalize hR : (fun i k => mulR (fe x) (fe y) i (mulW (fe x) (fe y) i) k) = R at *
  have HR : ∀ i k, mulR (fe x) (fe y) i (mulW (fe x) (fe y) i) k = R i k := fun i k => by rw [← hR]
  simp only [HR] at NR LR SW SR R0
  generalize mulW (fe x) (fe y) = M at *
  clear HR hR
  generalize fe x = xs at *
  generalize fe y = ys at *
  generalize hf : fe c = zs at *
  have LZ := Aside0.mk (hf ▸ fe_length c)
  clear hf
  have S0 := Aside0.mk (((((St.start w).push rfl 41 .i64 xs).push (World.size_alloc ..) 41 .i64 ys).push (by rw [World.size_alloc, World.size_alloc]; rfl) 41 .i64 z16).push (by rw [World.size_alloc, World.size_alloc, World.size_alloc]; rfl) 88 .i64 (List.replicate 32 0))
  go_enter Try.func51, Try.ntmps51
  go_wp2_with (refine st_arr rfl 88 (.tmp 5) (.tmp 10) rfl (w.heap.size + 3) (k := .i64) (xs := List.replicate 32 0) rfl rfl (S0.out.blk 3 rfl) (m := 32) (by kernel_rfl) (List.length_replicate ..) rfl ?_; intro w0 h1 h2 h4 h3; have S1 := Aside0.mk (S0.out.row 3 rfl h1 h2 h3); clear h1 h2 h3 h4 S0)
  go_loopg [6, 7] 16 (fun gg v6 _ wr => ∃ i : Nat, i ≤ 16 ∧ 16 - i ≤ gg ∧ v6 = .int .i64 i ∧ Aside0 (St w [⟨41, .i64, xs⟩, ⟨41, .i64, ys⟩, ⟨41, .i64, z16⟩, ⟨88, .i64, M i⟩] wr))
  case atStart =>
    refine ⟨0, by omega, by omega, rfl, ?_⟩
    rw [W0.out]
    exact S1
  case round =>
    obtain ⟨i, hi, hg, rfl, S⟩ := hrel
    by_cases hlt : i < 16
    · have hlti : (i : Int) < 16 := by omega
      have a := RX.out i
      have a1 := a.1
      have a2 := a.2
      clear a
      go_wp2
      go_loopg [7] 16 (fun gg2 v7 wr2 => ∃ k : Nat, k ≤ 16 ∧ 16 - k ≤ gg2 ∧ v7 = .int .i64 k ∧ Aside0 (St w [⟨41, .i64, xs⟩, ⟨41, .i64, ys⟩, ⟨41, .i64, z16⟩, ⟨88, .i64, R i k⟩] wr2))
      case atStart => exact ⟨0, by omega, by omega, rfl, by rw [R0.out]; exact S⟩
      case round =>
        obtain ⟨k, hk, hg2, rfl, S2⟩ := hrel
        by_cases hlt2 : k < 16
        · have hlti2 : (k : Int) < 16 := by omega
          have hc1 := S2.out.cell 3 rfl (i + k) (by rw [LR.out]; omega)
          have hf1 := blk_frozen (S2.out.blk 3 rfl) (i + k)
          have hc2 := S2.out.cell 0 rfl i (by rw [LX.out]; omega)
          have hc3 := S2.out.cell 1 rfl k (by rw [LY.out]; omega)
          rw [Nat.add_zero] at hc2
          have b := RY.out k
          have m := NR.out i k (i + k)
          have P := Aside0.mk ((S2.out.set 3 rfl (i + k) ((R i k).getD (i + k) 0 + xs.getD i 0 * ys.getD k 0)).drew)
          have EQ := Aside0.mk (SR.out i k)
          have p := prod_le _ _ ⟨a1, a2⟩ b
          have p1 := p.1
          have p2 := p.2
          have m1 := m.1
          have m2 : (R i k).getD (i + k) 0 ≤ 1168197847040 := by have := m.2; omega
          clear b m p
          obtain ⟨j, hj⟩ : ∃ j : Nat, j = i + k := ⟨_, rfl⟩
          have hj1 : (i : Int) + (k : Int) = (j : Int) := by omega
          have hj2 : (j : Int) < 32 := by omega
          rw [← hj] at hc1 hf1 P EQ m1 m2
          generalize (R i k).getD j 0 = v at *
          generalize xs.getD i 0 = a at *
          generalize ys.getD k 0 = b at *
          generalize hab : a * b = ab at *
          clear hj
          go_wp2
          go_region
          go_wp2
          go_roundg (16 - (k + 1))
          case measure => omega
          case rel => exact ⟨k + 1, by omega, by omega, by go_num, by rw [EQ.out]; exact P⟩
        · have hk16 : k = 16 := by omega
          subst hk16
          have hneg : ¬ ((16 : Nat) : Int) < 16 := by omega
          go_wp2
          go_roundg (16 - (i + 1))
          case measure => omega
          case rel => exact ⟨i + 1, by omega, by omega, by go_num, by rw [SW.out]; exact S2⟩
    · have hi16 : i = 16 := by omega
      subst hi16
      have hneg : ¬ ((16 : Nat) : Int) < 16 := by omega
      obtain ⟨V0, e0⟩ : ∃ V0, V0 = wr := ⟨_, rfl⟩
      subst e0
      have SZ := Aside0.mk S.out.size
      have LM := Aside0.mk (LW.out 16)
      have NM := Aside0.mk (NW.out 16)
      generalize M 16 = W at *
      have LF := Aside0.mk (fun k => fldS_length W k)
      have SF := Aside0.mk (fun k => show fldS W (k + 1) = (fldS W k).set k (W.getD k 0 + 38 * W.getD (k + 16) 0) from rfl)
      have F0 := Aside0.mk (show fldS W 0 = List.replicate 16 0 from rfl)
      generalize fldS W = F at *
      go_wp2
      go_loopg [9] 16 (fun gg2 v9 wr2 => ∃ k : Nat, k ≤ 16 ∧ 16 - k ≤ gg2 ∧ v9 = .int .i64 k ∧ Aside0 (St w [⟨41, .i64, xs⟩, ⟨41, .i64, ys⟩, ⟨41, .i64, z16⟩, ⟨88, .i64, W⟩] wr2) ∧ Aside0 (wr2.heap[V0.heap.size]? = some (.cells (arr .i64 (F k)) 41 (0, 0))))
      case atStart =>
        refine ⟨0, by omega, by omega, rfl, ⟨S.out.alloc (.cells (arr .i64 z16) 41)⟩, ?_⟩
        rw [F0.out]
        exact ⟨blk_new V0 (.cells (arr .i64 z16) 41)⟩
      case round =>
        obtain ⟨k, hk, hg2, rfl, S2, G⟩ := hrel
        by_cases hlt2 : k < 16
        · have hlti2 : (k : Int) < 16 := by omega
          obtain ⟨j, hj⟩ : ∃ j : Nat, j = k + 16 := ⟨_, rfl⟩
          have hj1 : (k : Int) + 16 = (j : Int) := by omega
          have hj2 : (j : Int) < 32 := by omega
          have hk2 : (k : Int) < 32 := by omega
          have hc1 := S2.out.cell 3 rfl k (by rw [LM.out]; omega)
          have hc2 := S2.out.cell 3 rfl j (by rw [LM.out]; omega)
          have hc3 := blk_get G.out k (by rw [LF.out]; omega)
          have hf3 := blk_frozen G.out k
          have n1 := NM.out k
          have n2 := NM.out j
          have n3 := n1.1
          have n4 : W.getD k 0 ≤ 1099478073600 := by have := n1.2; omega
          have n5 := n2.1
          have n6 : W.getD j 0 ≤ 1099478073600 := by have := n2.2; omega
          have P := Aside0.mk ((S2.out.far V0.heap.size SZ.out k (.int .i64 (W.getD k 0 + 38 * W.getD j 0))).drew)
          have PG := Aside0.mk (blk_drew (blk_upd G.out k (W.getD k 0 + 38 * W.getD j 0)))
          have EQ := Aside0.mk (SF.out k)
          rw [← hj] at EQ
          clear n1 n2 hj
          generalize W.getD k 0 = a at *
          generalize W.getD j 0 = b at *
          go_wp2
          go_region
          go_wp2
          go_roundg (16 - (k + 1))
          case measure => omega
          case rel => exact ⟨k + 1, by omega, by omega, by go_num, P, by rw [EQ.out]; exact PG⟩
        · have hk16 : k = 16 := by omega
          subst hk16
          have hneg : ¬ ((16 : Nat) : Int) < 16 := by omega
          rw [← HT.out] at G
          have LT : Aside0 (ts.length = 16) := ⟨by rw [HT.out, LF.out]⟩
          go_wp2_with (first
            | ((with_reducible refine gate_dst (N := 49) rfl ?_); refine ld_arr rfl 41 (.tmp 8) rfl V0.heap.size rfl G.out Try.underlying41 (m := 16) (by kernel_rfl) LT.out ?_)
            | ((with_reducible refine (HC.out _).mono ?_); rintro e w1 ⟨rfl, hb⟩; have S3 := Aside0.mk (S2.out.step hb); clear hb)
            | (refine st_arr rfl 41 (.tmp 4) (.tmp 50) rfl (w.heap.size + 2) (xs := zs) rfl rfl (S3.out.blk 2 rfl) (m := 16) (by kernel_rfl) LZ.out (by rw [LZ.out]; rfl) ?_; intro w' h1 h2 h4 h3; have H1 := Aside0.mk h1; have S4 := Aside0.mk (S3.out.row 2 rfl h1 h2 h3); clear h1 h2 h3 h4))
          exact bodyPost_ret (results_cell_row Try.results51 _ _ (w.heap.size + 2) 41 _ (0, 0) _ rfl H1.out Try.underlying41 rfl (by rw [arr_size, LZ.out]; kernel_rfl)) rfl ⟨rfl, S4.out.below⟩
theorem small_fe (n : Nat) (hn : n < 4294967296) : ((List.replicate 16 (0 : Int)).set 0 ((n % 65536 : Nat) : Int)).set 1 ((n / 65536 : Nat) : Int) = fe n := by
  refine eq_fe (xs := ((List.replicate 16 (0 : Int)).set 0 ((n % 65536 : Nat) : Int)).set 1 ((n / 65536 : Nat) : Int)) ?_ (by simp) n ?_
  · have h0 : Ok 65536 (List.replicate 16 (0 : Int)) := by
      intro x hx
      rw [List.eq_of_mem_replicate hx]; omega
    exact ok_set (ok_set h0 _ _ (by omega) (by omega)) _ _ (by omega) (by omega)
  · rw [BB_pow, Nat.mod_eq_of_lt (show n < BB by rw [BB_eq]; omega)]
    show lval 65536 [((n % 65536 : Nat) : Int), ((n / 65536 : Nat) : Int), 0, 0, 0, 0, 0, 0, 0, 0, 0, 0, 0, 0, 0, 0] = _
    simp only [lval]
    omega
set_option maxHeartbeats 1000000 in
set_option maxRecDepth 100000 in
theorem spec_l05Small.calls (n : Nat) (w : World) (hn : n < 4294967296) :
    Calls Try.prog 52 #[.int .i64 (n : Int)] w fun e w' => e = .returned (.agg (arr .i64 (fe n))) ∧ Below w.heap.size w w' := by
  have HF := Aside0.mk (small_fe n hn)
  have LF := Aside0.mk (fe_length n)
  obtain ⟨a, ha⟩ : ∃ a : Nat, a = n % 65536 := ⟨_, rfl⟩
  obtain ⟨b, hb⟩ : ∃ b : Nat, b = n / 65536 := ⟨_, rfl⟩
  rw [← ha, ← hb] at HF
  have n0 : (n : Int) % 65536 = (a : Int) := by omega
  have n1 : (n : Int).tmod 65536 = (a : Int) := by rw [Int.tmod_eq_emod_of_nonneg (by omega)]; omega
  have n2 : (n : Int) / 65536 = (b : Int) := by omega
  have n3 : (n : Int).tdiv 65536 = (b : Int) := by rw [Int.tdiv_eq_ediv_of_nonneg (by omega)]; omega
  have n4 : (n : Int) < 4294967296 := by omega
  have n5 : (b : Int) < 65536 := by omega
  generalize fe n = zs at *
  clear ha hb hn
  have S0 := Aside0.mk (((St.start w).push rfl 41 .i64 z16).push (World.size_alloc ..) 41 .i64 z16)
  go_enter Try.func52, Try.ntmps52
  go_wp2
  exact bodyPost_ret (results_cell_row Try.results52 _ _ w.heap.size 41 _ (0, 0) _ rfl (blk_alloc (blk_new w _) _) Try.underlying41 rfl (by kernel_rfl)) rfl ⟨by rw [← HF.out]; rfl, below_alloc (below_alloc (Below.refl _ _) _) _⟩
set_option maxHeartbeats 400000 in
set_option maxRecDepth 100000 in
theorem spec_l05Sub.calls (x y : Nat) (w : World) (hx : x < BB) (hy : y < BB) :
    Calls Try.prog 53 #[.agg (arr .i64 (fe x)), .agg (arr .i64 (fe y))] w fun e w' => ∃ c, c < BB ∧ (c + y) % PP = x % PP ∧ e = .returned (.agg (arr .i64 (fe c))) ∧ Below w.heap.size w w' := by
  obtain ⟨hbd, c, hc1, hc2, hc3⟩ := sub_fe x y hx hy
  have HC := Aside0.mk (fun W => spec_l05Carry.calls (subT x y) W hbd (subT_length x y))
  rw [hc2] at HC
  refine Calls.mono (R := fun e w' => e = .returned (.agg (arr .i64 (fe c))) ∧ Below w.heap.size w w') ?_ (fun e w' h => ⟨c, hc1, hc3, h⟩)
  clear hc1 hc2 hc3 hx hy hbd
  have BS := Aside0.mk ((subS_bs x y 16) 0)
  have HT := Aside0.mk (show subT x y = (subS (fe x) (fe y) 16).set 0 ((subS (fe x) (fe y) 16).getD 0 0 - 37) from rfl)
  have LT := Aside0.mk (subT_length x y)
  generalize subT x y = ts at *
  have HE := Aside0.mk (fun k => subS_rest (fe x) (fe y) k k (Nat.le_refl k))
  have RX := Aside0.mk (fe_getD x)
  have RY := Aside0.mk (fe_getD y)
  have LS := Aside0.mk (fun k => (subS_length (fe x) (fe y) k).trans (fe_length x))
  have LX := Aside0.mk (fe_length x)
  have LY := Aside0.mk (fe_length y)
  have HS := Aside0.mk (fun k => show subS (fe x) (fe y) (k + 1) = (subS (fe x) (fe y) k).set k ((subS (fe x) (fe y) k).getD k 0 + (65535 - (fe y).getD k 0)) from rfl)
  have H0 := Aside0.mk (show subS (fe x) (fe y) 0 = fe x from rfl)
  generalize subS (fe x) (fe y) = A at *
  generalize fe x = xs at *
  generalize fe y = ys at *
  generalize hf : fe c = zs at *
  have LZ := Aside0.mk (hf ▸ fe_length c)
  clear hf
  go_enter Try.func53, Try.ntmps53
  go_wp2
  go_loopg [5] 16 (fun gg v5 wr => ∃ k : Nat, k ≤ 16 ∧ 16 - k ≤ gg ∧ v5 = .int .i64 k ∧ Aside0 (St w [⟨41, .i64, A k⟩, ⟨41, .i64, ys⟩, ⟨41, .i64, z16⟩] wr))
  case atStart =>
    refine ⟨0, by omega, by omega, rfl, ?_⟩
    rw [H0.out]
    exact ⟨(((St.start w).push rfl 41 .i64 xs).push (World.size_alloc ..) 41 .i64 ys).push (by rw [World.size_alloc, World.size_alloc]; rfl) 41 .i64 z16⟩
  case round =>
    obtain ⟨k, hk, hg, rfl, S⟩ := hrel
    by_cases hlt : k < 16
    · have hlti : (k : Int) < 16 := by omega
      have hc1 := S.out.cell 0 rfl k (by rw [LS.out]; omega)
      have hf1 := blk_frozen (S.out.blk 0 rfl) k
      rw [Nat.add_zero] at hc1 hf1
      have hc2 := S.out.cell 1 rfl k (by rw [LY.out]; omega)
      have a := RX.out k
      have b := RY.out k
      have a1 := a.1
      have a2 := a.2
      have b1 := b.1
      have b2 := b.2
      rw [HE.out k] at hc1
      have P := Aside0.mk ((S.out.set 0 rfl k (xs.getD k 0 + (65535 - ys.getD k 0))).drew)
      have EQ := Aside0.mk ((HS.out k).trans (by rw [HE.out k]))
      clear a b
      generalize xs.getD k 0 = a at *
      generalize ys.getD k 0 = b at *
      go_wp2
      go_region
      go_wp2
      go_roundg (16 - (k + 1))
      case measure => omega
      case rel => exact ⟨k + 1, by omega, by omega, by go_num, by rw [EQ.out]; exact P⟩
    · have hk16 : k = 16 := by omega
      subst hk16
      have hneg : ¬ ((16 : Nat) : Int) < 16 := by omega
      have hb0 := BS.out
      have hb1 := hb0.1
      have hb2 := hb0.2
      have hc1 := S.out.cell 0 rfl 0 (by rw [LS.out]; omega)
      have hf1 := blk_frozen (S.out.blk 0 rfl) 0
      rw [Nat.add_zero] at hc1 hf1
      have S0 := Aside0.mk (S.out.set 0 rfl 0 ((A 16).getD 0 0 - 37))
      rw [← HT.out] at S0
      clear hb0
      generalize (A 16).getD 0 0 = a at *
      go_wp2_with (first
        | ((with_reducible refine gate_dst (N := 23) rfl ?_); refine ld_arr rfl 41 (.tmp 2) rfl w.heap.size rfl (S0.out.blk 0 rfl) Try.underlying41 (m := 16) (by kernel_rfl) LT.out ?_)
        | ((with_reducible refine (HC.out _).mono ?_); rintro e w1 ⟨rfl, hb⟩; have S1 := Aside0.mk (S0.out.step hb); clear hb)
        | (refine st_arr rfl 41 (.tmp 4) (.tmp 24) rfl (w.heap.size + 2) (xs := zs) rfl rfl (S1.out.blk 2 rfl) (m := 16) (by kernel_rfl) LZ.out (by rw [LZ.out]; rfl) ?_; intro w' h1 h2 h4 h3; have H1 := Aside0.mk h1; have S2 := Aside0.mk (S1.out.row 2 rfl h1 h2 h3); clear h1 h2 h3 h4))
      exact bodyPost_ret (results_cell_row Try.results53 _ _ (w.heap.size + 2) 41 _ (0, 0) _ rfl H1.out Try.underlying41 rfl (by rw [arr_size, LZ.out]; kernel_rfl)) rfl ⟨rfl, S2.out.below⟩
theorem and1i (n : Int) : bits .and .i64 n 1 = n % 2 := by
  show IntKind.i64.wrap ((BitVec.ofInt 64 n &&& BitVec.ofInt 64 1).toNat : Int) = _
  rw [BitVec.toNat_and, show (BitVec.ofInt 64 1).toNat = 1 from by decide, Nat.and_one_is_mod, BitVec.toNat_ofInt]
  simp [IntKind.wrap, IntKind.bits, IntKind.signed]
  omega
set_option maxHeartbeats 4000000 in
set_option maxRecDepth 100000 in
theorem spec_l05Pow.calls (a low high : Nat) (w : World) (ha : a < BB) (hlo : low < 256) (hhi : high < 256) :
    Calls Try.prog 77 #[.agg (arr .i64 (fe a)), .int .i64 (low : Int), .int .i64 (high : Int)] w fun e w' => ∃ c, c < BB ∧ c % PP = a ^ (expN low high) % PP ∧ e = .returned (.agg (arr .i64 (fe c))) ∧ Below w.heap.size w w' := by
  obtain ⟨E, hE⟩ : ∃ E, E = expN low high := ⟨_, rfl⟩
  have HX := Aside0.mk (fun i k hi hk => exp_bit low high i k hlo hhi hi hk)
  have hE2 := expN_lt low high hlo hhi
  rw [← hE] at HX hE2 ⊢
  have H0 := Aside0.mk (show a ^ (E / 2 ^ 256) % PP = 1 % PP by rw [Nat.div_eq_of_lt hE2, Nat.pow_zero])
  have HA := Aside0.mk ha
  have HS1 := Aside0.mk (fun W => (show Calls Try.prog 52 #[.int .i64 1] W _ from spec_l05Small.calls 1 W (by decide)))
  clear hE hE2 ha hlo hhi
  have S := Aside0.mk (((St.start w).push rfl 41 .i64 (fe a)).push (World.size_alloc ..) 41 .i64 z16)
  go_enter Try.func77, Try.ntmps77
  go_wp2_with (first
    | ((with_reducible refine (HS1.out _).mono ?_); rintro e w1 ⟨rfl, hb⟩; have S1 := Aside0.mk (S.out.step hb); clear hb)
    | (refine st_arr rfl 41 (.tmp 7) (.tmp 11) rfl w1.heap.size (xs := fe 1) rfl rfl (blk_new w1 (.cells (arr .i64 z16) 41)) (m := 16) (by kernel_rfl) (fe_length _) (by rw [fe_length]; rfl) ?_; intro w2 h1 h2 h4 h3; have G2 := Aside0.mk h1; have S2 := Aside0.mk (St.other (S1.out.alloc (.cells (arr .i64 z16) 41)) h2 h3 S1.out.size); clear h1 h2 h3 h4))
  have HG := Aside0.mk S1.out.size
  generalize w1.heap.size = g at *
  go_loopg [8] 33 (fun gg s8 wr => ∃ k : Nat, k ≤ 32 ∧ k ≤ gg ∧ s8 = .int .i64 ((k : Int) - 1) ∧ ∃ c : Nat, c < BB ∧ c % PP = a ^ (E / 2 ^ (8 * k)) % PP ∧ Aside0 (St w [⟨41, .i64, fe a⟩, ⟨41, .i64, z16⟩] wr) ∧ Aside0 (wr.heap[g]? = some (.cells (arr .i64 (fe c)) 41 (0, 0))))
  case atStart => exact ⟨32, Nat.le_refl _, by omega, rfl, 1, by decide, by rw [← H0.out], S2, G2⟩
  case round =>
    clear S2 G2 S1 S
    obtain ⟨k, hk, hg, rfl, c, hc, hcm, S2, G2⟩ := hrel
    rcases Nat.eq_zero_or_pos k with h0 | h0
    · subst h0
      have e0 : ((0 : Nat) : Int) - 1 = -1 := rfl
      rw [e0]
      rw [Nat.mul_zero, Nat.pow_zero, Nat.div_one] at hcm
      go_wp2_with (first
        | ((with_reducible refine gate_dst (N := 38) rfl ?_); refine ld_arr rfl 41 (.tmp 7) rfl g rfl G2.out Try.underlying41 (m := 16) (by kernel_rfl) (fe_length _) ?_)
        | (refine st_arr rfl 41 (.tmp 6) (.tmp 38) rfl (w.heap.size + 1) (xs := fe c) rfl rfl (S2.out.blk 1 rfl) (m := 16) (by kernel_rfl) (fe_length _) (by rw [fe_length]; rfl) ?_; intro w' h1 h2 h4 h3; have H1 := Aside0.mk h1; have S3 := Aside0.mk (S2.out.row 1 rfl h1 h2 h3); clear h1 h2 h3 h4))
      exact bodyPost_ret (results_cell_row Try.results77 _ _ (w.heap.size + 1) 41 _ (0, 0) _ rfl H1.out Try.underlying41 rfl (by rw [arr_size, fe_length]; kernel_rfl)) rfl ⟨c, hc, hcm, rfl, S3.out.below⟩
    · obtain ⟨i, rfl⟩ : ∃ i, k = i + 1 := ⟨k - 1, by omega⟩
      have e0 : (((i + 1 : Nat)) : Int) - 1 = (i : Int) := by omega
      rw [e0]
      have hi0 : (i : Int) ≥ 0 := by omega
      have HEX := Aside0.mk (show True from trivial)
      have HEB0 := Aside0.mk (fun k hk => HX.out i k (by omega) hk)
      clear e0
      rcases Nat.eq_zero_or_pos i with hz | hz
      · have z0 : (i : Int) = 0 := by omega
        have z1 : ¬ (i : Int) = 31 := by omega
        have b0 := z0
        have b1 := z1
        have HEB := Aside0.mk (fun k (hk : k < 8) => show E / 2 ^ (8 * i + k) % 2 = low / 2 ^ k % 2 by rw [HEB0.out k hk, expB, if_pos hz])
        clear HEB0 hz
        have hbits : ∀ k : Nat, k < 8 → bits .and .i64 ((low : Int) / 2 ^ k) 1 = ((E / 2 ^ (8 * i + k) % 2 : Nat) : Int) := fun k hk => by
          rw [HEB.out k hk, and1i]
          simp
        have HBT := Aside0.mk hbits
        clear hbits HEX HEB
        go_wp2
        clear z0 z1 b0 b1
        go_loopg [10] 9 (fun gg2 s10 wr2 => ∃ k2 : Nat, k2 ≤ 8 ∧ k2 ≤ gg2 ∧ s10 = .int .i64 ((k2 : Int) - 1) ∧ ∃ c : Nat, c < BB ∧ c % PP = a ^ (E / 2 ^ (8 * i + k2)) % PP ∧ Aside0 (St w [⟨41, .i64, fe a⟩, ⟨41, .i64, z16⟩] wr2) ∧ Aside0 (wr2.heap[g]? = some (.cells (arr .i64 (fe c)) 41 (0, 0))))
        case atStart => exact ⟨8, Nat.le_refl _, by omega, rfl, c, hc, by rw [hcm, show 8 * (i + 1) = 8 * i + 8 from by omega], S2, G2⟩
        case round =>
          obtain ⟨k2, hk2, hg2, rfl, c, hc, hcm, S3, G3⟩ := hrel
          rcases Nat.eq_zero_or_pos k2 with h0 | h0
          · subst h0
            have e1 : ((0 : Nat) : Int) - 1 = -1 := rfl
            rw [e1]
            rw [Nat.add_zero] at hcm
            go_wp2
            go_roundg i
            case measure => omega
            case rel => exact ⟨i, by omega, Nat.le_refl _, by go_num, c, hc, hcm, S3, G3⟩
          · obtain ⟨k, rfl⟩ : ∃ k, k2 = k + 1 := ⟨k2 - 1, by omega⟩
            have e1 : (((k + 1 : Nat)) : Int) - 1 = (k : Int) := by omega
            rw [e1]
            have k0 : (k : Int) ≥ 0 := by omega
            have k8 : (k : Int) < 8 := by omega
            have k8n : k < 8 := by omega
            have k64 : min k 64 = k := by omega
            have wk : IntKind.u64.wrap (k : Int) = (k : Int) := by rw [IntKind.wrap_u64]; omega
            have hbit := HBT.out k k8n
            have hcm1 : c % PP = a ^ (E / 2 ^ (8 * i + k + 1)) % PP := hcm
            clear e1
            rcases Nat.mod_two_eq_zero_or_one (E / 2 ^ (8 * i + k)) with hb0 | hb0
            · have HPW := Aside0.mk (pow_sq a E (8 * i + k) c hb0 hcm1)
              rw [hb0] at hbit
              have hbit0 : bits .and .i64 ((low : Int) / 2 ^ k) 1 = 0 := hbit
              clear hbit hb0 hcm hcm1
              go_wp2_with (first
                | ((with_reducible refine gate_dst (N := 26) rfl ?_); refine ld_arr rfl 41 (.tmp 7) rfl g rfl G3.out Try.underlying41 (m := 16) (by kernel_rfl) (fe_length _) ?_)
                | ((with_reducible refine gate_dst (N := 27) rfl ?_); refine ld_arr rfl 41 (.tmp 7) rfl g rfl G3.out Try.underlying41 (m := 16) (by kernel_rfl) (fe_length _) ?_)
                | ((with_reducible refine (spec_l05Mul.calls c c _ hc hc).mono ?_); rintro e w4 ⟨c2, hc2, hm2, rfl, hb⟩; have S4 := Aside0.mk (S3.out.step hb); have G4 := Aside0.mk (blk_below G3.out hb); clear hb)
                | (refine st_arr rfl 41 (.tmp 7) (.tmp 28) rfl g (xs := fe c2) rfl rfl G4.out (m := 16) (by kernel_rfl) (fe_length _) (by rw [fe_length, fe_length]) ?_; intro w5 h1 h2 h4 h3; have G5 := Aside0.mk h1; have S5 := Aside0.mk (St.other S4.out h2 h3 HG.out); clear h1 h2 h3 h4))
              go_roundg k
              case measure => omega
              case rel => exact ⟨k, by omega, Nat.le_refl _, by go_num, c2, hc2, by rw [hm2, HPW.out], S5, G5⟩
            · have HPW := Aside0.mk (fun y hy => pow_sq1 a E (8 * i + k) c hb0 hcm1 y hy)
              rw [hb0] at hbit
              have hbit0 : bits .and .i64 ((low : Int) / 2 ^ k) 1 = 1 := hbit
              clear hbit hb0 hcm hcm1
              go_wp2_with (first
                | ((with_reducible refine gate_dst (N := 26) rfl ?_); refine ld_arr rfl 41 (.tmp 7) rfl g rfl G3.out Try.underlying41 (m := 16) (by kernel_rfl) (fe_length _) ?_)
                | ((with_reducible refine gate_dst (N := 27) rfl ?_); refine ld_arr rfl 41 (.tmp 7) rfl g rfl G3.out Try.underlying41 (m := 16) (by kernel_rfl) (fe_length _) ?_)
                | ((with_reducible refine gate_dst (N := 35) rfl ?_); refine ld_arr rfl 41 (.tmp 7) rfl g rfl G5.out Try.underlying41 (m := 16) (by kernel_rfl) (fe_length _) ?_)
                | ((with_reducible refine gate_dst (N := 36) rfl ?_); refine ld_arr rfl 41 (.tmp 3) rfl w.heap.size rfl (S5.out.blk 0 rfl) Try.underlying41 (m := 16) (by kernel_rfl) (fe_length _) ?_)
                | ((with_reducible refine (spec_l05Mul.calls c c _ hc hc).mono ?_); rintro e w4 ⟨c2, hc2, hm2, rfl, hb⟩; have S4 := Aside0.mk (S3.out.step hb); have G4 := Aside0.mk (blk_below G3.out hb); clear hb)
                | (refine st_arr rfl 41 (.tmp 7) (.tmp 28) rfl g (xs := fe c2) rfl rfl G4.out (m := 16) (by kernel_rfl) (fe_length _) (by rw [fe_length, fe_length]) ?_; intro w5 h1 h2 h4 h3; have G5 := Aside0.mk h1; have S5 := Aside0.mk (St.other S4.out h2 h3 HG.out); clear h1 h2 h3 h4)
                | ((with_reducible refine (spec_l05Mul.calls c2 a _ hc2 HA.out).mono ?_); rintro e w6 ⟨c3, hc3, hm3, rfl, hb⟩; have S6 := Aside0.mk (S5.out.step hb); have G6 := Aside0.mk (blk_below G5.out hb); clear hb)
                | (refine st_arr rfl 41 (.tmp 7) (.tmp 37) rfl g (xs := fe c3) rfl rfl G6.out (m := 16) (by kernel_rfl) (fe_length _) (by rw [fe_length, fe_length]) ?_; intro w7 h1 h2 h4 h3; have G7 := Aside0.mk h1; have S7 := Aside0.mk (St.other S6.out h2 h3 HG.out); clear h1 h2 h3 h4))
              go_roundg k
              case measure => omega
              case rel => exact ⟨k, by omega, Nat.le_refl _, by go_num, c3, hc3, by rw [hm3, HPW.out c2 hm2], S7, G7⟩
      · have z0 : ¬ (i : Int) = 0 := by omega
        by_cases h31 : i = 31
        · have z1 : (i : Int) = 31 := by omega
          have b0 := z0
          have b1 := z1
          have HEB := Aside0.mk (fun k (hk : k < 8) => show E / 2 ^ (8 * i + k) % 2 = high / 2 ^ k % 2 by rw [HEB0.out k hk, expB, if_neg (by omega), if_pos h31])
          clear HEB0 hz h31
          have hbits : ∀ k : Nat, k < 8 → bits .and .i64 ((high : Int) / 2 ^ k) 1 = ((E / 2 ^ (8 * i + k) % 2 : Nat) : Int) := fun k hk => by
            rw [HEB.out k hk, and1i]
            simp
          have HBT := Aside0.mk hbits
          clear hbits HEX HEB
          go_wp2
          clear z0 z1 b0 b1
          go_loopg [10] 9 (fun gg2 s10 wr2 => ∃ k2 : Nat, k2 ≤ 8 ∧ k2 ≤ gg2 ∧ s10 = .int .i64 ((k2 : Int) - 1) ∧ ∃ c : Nat, c < BB ∧ c % PP = a ^ (E / 2 ^ (8 * i + k2)) % PP ∧ Aside0 (St w [⟨41, .i64, fe a⟩, ⟨41, .i64, z16⟩] wr2) ∧ Aside0 (wr2.heap[g]? = some (.cells (arr .i64 (fe c)) 41 (0, 0))))
          case atStart => exact ⟨8, Nat.le_refl _, by omega, rfl, c, hc, by rw [hcm, show 8 * (i + 1) = 8 * i + 8 from by omega], S2, G2⟩
          case round =>
            obtain ⟨k2, hk2, hg2, rfl, c, hc, hcm, S3, G3⟩ := hrel
            rcases Nat.eq_zero_or_pos k2 with h0 | h0
            · subst h0
              have e1 : ((0 : Nat) : Int) - 1 = -1 := rfl
              rw [e1]
              rw [Nat.add_zero] at hcm
              go_wp2
              go_roundg i
              case measure => omega
              case rel => exact ⟨i, by omega, Nat.le_refl _, by go_num, c, hc, hcm, S3, G3⟩
            · obtain ⟨k, rfl⟩ : ∃ k, k2 = k + 1 := ⟨k2 - 1, by omega⟩
              have e1 : (((k + 1 : Nat)) : Int) - 1 = (k : Int) := by omega
              rw [e1]
              have k0 : (k : Int) ≥ 0 := by omega
              have k8 : (k : Int) < 8 := by omega
              have k8n : k < 8 := by omega
              have k64 : min k 64 = k := by omega
              have wk : IntKind.u64.wrap (k : Int) = (k : Int) := by rw [IntKind.wrap_u64]; omega
              have hbit := HBT.out k k8n
              have hcm1 : c % PP = a ^ (E / 2 ^ (8 * i + k + 1)) % PP := hcm
              clear e1
              rcases Nat.mod_two_eq_zero_or_one (E / 2 ^ (8 * i + k)) with hb0 | hb0
              · have HPW := Aside0.mk (pow_sq a E (8 * i + k) c hb0 hcm1)
                rw [hb0] at hbit
                have hbit0 : bits .and .i64 ((high : Int) / 2 ^ k) 1 = 0 := hbit
                clear hbit hb0 hcm hcm1
                go_wp2_with (first
                  | ((with_reducible refine gate_dst (N := 26) rfl ?_); refine ld_arr rfl 41 (.tmp 7) rfl g rfl G3.out Try.underlying41 (m := 16) (by kernel_rfl) (fe_length _) ?_)
                  | ((with_reducible refine gate_dst (N := 27) rfl ?_); refine ld_arr rfl 41 (.tmp 7) rfl g rfl G3.out Try.underlying41 (m := 16) (by kernel_rfl) (fe_length _) ?_)
                  | ((with_reducible refine (spec_l05Mul.calls c c _ hc hc).mono ?_); rintro e w4 ⟨c2, hc2, hm2, rfl, hb⟩; have S4 := Aside0.mk (S3.out.step hb); have G4 := Aside0.mk (blk_below G3.out hb); clear hb)
                  | (refine st_arr rfl 41 (.tmp 7) (.tmp 28) rfl g (xs := fe c2) rfl rfl G4.out (m := 16) (by kernel_rfl) (fe_length _) (by rw [fe_length, fe_length]) ?_; intro w5 h1 h2 h4 h3; have G5 := Aside0.mk h1; have S5 := Aside0.mk (St.other S4.out h2 h3 HG.out); clear h1 h2 h3 h4))
                go_roundg k
                case measure => omega
                case rel => exact ⟨k, by omega, Nat.le_refl _, by go_num, c2, hc2, by rw [hm2, HPW.out], S5, G5⟩
              · have HPW := Aside0.mk (fun y hy => pow_sq1 a E (8 * i + k) c hb0 hcm1 y hy)
                rw [hb0] at hbit
                have hbit0 : bits .and .i64 ((high : Int) / 2 ^ k) 1 = 1 := hbit
                clear hbit hb0 hcm hcm1
                go_wp2_with (first
                  | ((with_reducible refine gate_dst (N := 26) rfl ?_); refine ld_arr rfl 41 (.tmp 7) rfl g rfl G3.out Try.underlying41 (m := 16) (by kernel_rfl) (fe_length _) ?_)
                  | ((with_reducible refine gate_dst (N := 27) rfl ?_); refine ld_arr rfl 41 (.tmp 7) rfl g rfl G3.out Try.underlying41 (m := 16) (by kernel_rfl) (fe_length _) ?_)
                  | ((with_reducible refine gate_dst (N := 35) rfl ?_); refine ld_arr rfl 41 (.tmp 7) rfl g rfl G5.out Try.underlying41 (m := 16) (by kernel_rfl) (fe_length _) ?_)
                  | ((with_reducible refine gate_dst (N := 36) rfl ?_); refine ld_arr rfl 41 (.tmp 3) rfl w.heap.size rfl (S5.out.blk 0 rfl) Try.underlying41 (m := 16) (by kernel_rfl) (fe_length _) ?_)
                  | ((with_reducible refine (spec_l05Mul.calls c c _ hc hc).mono ?_); rintro e w4 ⟨c2, hc2, hm2, rfl, hb⟩; have S4 := Aside0.mk (S3.out.step hb); have G4 := Aside0.mk (blk_below G3.out hb); clear hb)
                  | (refine st_arr rfl 41 (.tmp 7) (.tmp 28) rfl g (xs := fe c2) rfl rfl G4.out (m := 16) (by kernel_rfl) (fe_length _) (by rw [fe_length, fe_length]) ?_; intro w5 h1 h2 h4 h3; have G5 := Aside0.mk h1; have S5 := Aside0.mk (St.other S4.out h2 h3 HG.out); clear h1 h2 h3 h4)
                  | ((with_reducible refine (spec_l05Mul.calls c2 a _ hc2 HA.out).mono ?_); rintro e w6 ⟨c3, hc3, hm3, rfl, hb⟩; have S6 := Aside0.mk (S5.out.step hb); have G6 := Aside0.mk (blk_below G5.out hb); clear hb)
                  | (refine st_arr rfl 41 (.tmp 7) (.tmp 37) rfl g (xs := fe c3) rfl rfl G6.out (m := 16) (by kernel_rfl) (fe_length _) (by rw [fe_length, fe_length]) ?_; intro w7 h1 h2 h4 h3; have G7 := Aside0.mk h1; have S7 := Aside0.mk (St.other S6.out h2 h3 HG.out); clear h1 h2 h3 h4))
                go_roundg k
                case measure => omega
                case rel => exact ⟨k, by omega, Nat.le_refl _, by go_num, c3, hc3, by rw [hm3, HPW.out c2 hm2], S7, G7⟩
        · have z1 : ¬ (i : Int) = 31 := by omega
          have b0 : ((i : Int) == 0) = false := beq_eq_false_iff_ne.mpr z0
          have b1 : ((i : Int) == 31) = false := beq_eq_false_iff_ne.mpr z1
          have HEB := Aside0.mk (fun k (hk : k < 8) => show E / 2 ^ (8 * i + k) % 2 = 255 / 2 ^ k % 2 by rw [HEB0.out k hk, expB, if_neg (by omega), if_neg h31])
          clear HEB0 hz h31
          have hbits : ∀ k : Nat, k < 8 → bits .and .i64 ((255 : Int) / 2 ^ k) 1 = ((E / 2 ^ (8 * i + k) % 2 : Nat) : Int) := fun k hk => by
            rw [HEB.out k hk, and1i]
            simp
          have HBT := Aside0.mk hbits
          clear hbits HEX HEB
          go_wp2
          clear z0 z1 b0 b1
          go_loopg [10] 9 (fun gg2 s10 wr2 => ∃ k2 : Nat, k2 ≤ 8 ∧ k2 ≤ gg2 ∧ s10 = .int .i64 ((k2 : Int) - 1) ∧ ∃ c : Nat, c < BB ∧ c % PP = a ^ (E / 2 ^ (8 * i + k2)) % PP ∧ Aside0 (St w [⟨41, .i64, fe a⟩, ⟨41, .i64, z16⟩] wr2) ∧ Aside0 (wr2.heap[g]? = some (.cells (arr .i64 (fe c)) 41 (0, 0))))
          case atStart => exact ⟨8, Nat.le_refl _, by omega, rfl, c, hc, by rw [hcm, show 8 * (i + 1) = 8 * i + 8 from by omega], S2, G2⟩
          case round =>
            obtain ⟨k2, hk2, hg2, rfl, c, hc, hcm, S3, G3⟩ := hrel
            rcases Nat.eq_zero_or_pos k2 with h0 | h0
            · subst h0
              have e1 : ((0 : Nat) : Int) - 1 = -1 := rfl
              rw [e1]
              rw [Nat.add_zero] at hcm
              go_wp2
              go_roundg i
              case measure => omega
              case rel => exact ⟨i, by omega, Nat.le_refl _, by go_num, c, hc, hcm, S3, G3⟩
            · obtain ⟨k, rfl⟩ : ∃ k, k2 = k + 1 := ⟨k2 - 1, by omega⟩
              have e1 : (((k + 1 : Nat)) : Int) - 1 = (k : Int) := by omega
              rw [e1]
              have k0 : (k : Int) ≥ 0 := by omega
              have k8 : (k : Int) < 8 := by omega
              have k8n : k < 8 := by omega
              have k64 : min k 64 = k := by omega
              have wk : IntKind.u64.wrap (k : Int) = (k : Int) := by rw [IntKind.wrap_u64]; omega
              have hbit := HBT.out k k8n
              have hcm1 : c % PP = a ^ (E / 2 ^ (8 * i + k + 1)) % PP := hcm
              clear e1
              rcases Nat.mod_two_eq_zero_or_one (E / 2 ^ (8 * i + k)) with hb0 | hb0
              · have HPW := Aside0.mk (pow_sq a E (8 * i + k) c hb0 hcm1)
                rw [hb0] at hbit
                have hbit0 : bits .and .i64 ((255 : Int) / 2 ^ k) 1 = 0 := hbit
                clear hbit hb0 hcm hcm1
                go_wp2_with (first
                  | ((with_reducible refine gate_dst (N := 26) rfl ?_); refine ld_arr rfl 41 (.tmp 7) rfl g rfl G3.out Try.underlying41 (m := 16) (by kernel_rfl) (fe_length _) ?_)
                  | ((with_reducible refine gate_dst (N := 27) rfl ?_); refine ld_arr rfl 41 (.tmp 7) rfl g rfl G3.out Try.underlying41 (m := 16) (by kernel_rfl) (fe_length _) ?_)
                  | ((with_reducible refine (spec_l05Mul.calls c c _ hc hc).mono ?_); rintro e w4 ⟨c2, hc2, hm2, rfl, hb⟩; have S4 := Aside0.mk (S3.out.step hb); have G4 := Aside0.mk (blk_below G3.out hb); clear hb)
                  | (refine st_arr rfl 41 (.tmp 7) (.tmp 28) rfl g (xs := fe c2) rfl rfl G4.out (m := 16) (by kernel_rfl) (fe_length _) (by rw [fe_length, fe_length]) ?_; intro w5 h1 h2 h4 h3; have G5 := Aside0.mk h1; have S5 := Aside0.mk (St.other S4.out h2 h3 HG.out); clear h1 h2 h3 h4))
                go_roundg k
                case measure => omega
                case rel => exact ⟨k, by omega, Nat.le_refl _, by go_num, c2, hc2, by rw [hm2, HPW.out], S5, G5⟩
              · have HPW := Aside0.mk (fun y hy => pow_sq1 a E (8 * i + k) c hb0 hcm1 y hy)
                rw [hb0] at hbit
                have hbit0 : bits .and .i64 ((255 : Int) / 2 ^ k) 1 = 1 := hbit
                clear hbit hb0 hcm hcm1
                go_wp2_with (first
                  | ((with_reducible refine gate_dst (N := 26) rfl ?_); refine ld_arr rfl 41 (.tmp 7) rfl g rfl G3.out Try.underlying41 (m := 16) (by kernel_rfl) (fe_length _) ?_)
                  | ((with_reducible refine gate_dst (N := 27) rfl ?_); refine ld_arr rfl 41 (.tmp 7) rfl g rfl G3.out Try.underlying41 (m := 16) (by kernel_rfl) (fe_length _) ?_)
                  | ((with_reducible refine gate_dst (N := 35) rfl ?_); refine ld_arr rfl 41 (.tmp 7) rfl g rfl G5.out Try.underlying41 (m := 16) (by kernel_rfl) (fe_length _) ?_)
                  | ((with_reducible refine gate_dst (N := 36) rfl ?_); refine ld_arr rfl 41 (.tmp 3) rfl w.heap.size rfl (S5.out.blk 0 rfl) Try.underlying41 (m := 16) (by kernel_rfl) (fe_length _) ?_)
                  | ((with_reducible refine (spec_l05Mul.calls c c _ hc hc).mono ?_); rintro e w4 ⟨c2, hc2, hm2, rfl, hb⟩; have S4 := Aside0.mk (S3.out.step hb); have G4 := Aside0.mk (blk_below G3.out hb); clear hb)
                  | (refine st_arr rfl 41 (.tmp 7) (.tmp 28) rfl g (xs := fe c2) rfl rfl G4.out (m := 16) (by kernel_rfl) (fe_length _) (by rw [fe_length, fe_length]) ?_; intro w5 h1 h2 h4 h3; have G5 := Aside0.mk h1; have S5 := Aside0.mk (St.other S4.out h2 h3 HG.out); clear h1 h2 h3 h4)
                  | ((with_reducible refine (spec_l05Mul.calls c2 a _ hc2 HA.out).mono ?_); rintro e w6 ⟨c3, hc3, hm3, rfl, hb⟩; have S6 := Aside0.mk (S5.out.step hb); have G6 := Aside0.mk (blk_below G5.out hb); clear hb)
                  | (refine st_arr rfl 41 (.tmp 7) (.tmp 37) rfl g (xs := fe c3) rfl rfl G6.out (m := 16) (by kernel_rfl) (fe_length _) (by rw [fe_length, fe_length]) ?_; intro w7 h1 h2 h4 h3; have G7 := Aside0.mk h1; have S7 := Aside0.mk (St.other S6.out h2 h3 HG.out); clear h1 h2 h3 h4))
                go_roundg k
                case measure => omega
                case rel => exact ⟨k, by omega, Nat.le_refl _, by go_num, c3, hc3, by rw [hm3, HPW.out c2 hm2], S7, G7⟩
set_option maxHeartbeats 1000000 in
set_option maxRecDepth 100000 in
theorem spec_l05Inverse.calls (a : Nat) (w : World) (ha : a < BB) :
    Calls Try.prog 54 #[.agg (arr .i64 (fe a))] w fun e w' => ∃ c, c < BB ∧ c % PP = a ^ (PP - 2) % PP ∧ e = .returned (.agg (arr .i64 (fe c))) ∧ Below w.heap.size w w' := by
  have HW := Aside0.mk (fun W => (show Calls Try.prog 77 #[.agg (arr .i64 (fe a)), .int .i64 235, .int .i64 127] W _ from spec_l05Pow.calls a 235 127 W ha (by decide) (by decide)))
  rw [show expN 235 127 = PP - 2 from by decide] at HW
  clear ha
  generalize a ^ (PP - 2) % PP = r at *
  have S := Aside0.mk (((St.start w).push rfl 41 .i64 (fe a)).push (World.size_alloc ..) 41 .i64 z16)
  go_enter Try.func54, Try.ntmps54
  go_wp2_with (first
    | ((with_reducible refine gate_dst (N := 3) rfl ?_); refine ld_arr rfl 41 (.tmp 1) rfl w.heap.size rfl (S.out.blk 0 rfl) Try.underlying41 (m := 16) (by kernel_rfl) (fe_length _) ?_)
    | ((with_reducible refine (HW.out _).mono ?_); rintro e w1 ⟨c, hc, hm, rfl, hb⟩; have S1 := Aside0.mk (S.out.step hb); clear hb)
    | (refine st_arr rfl 41 (.tmp 2) (.tmp 4) rfl (w.heap.size + 1) (xs := fe c) rfl rfl (S1.out.blk 1 rfl) (m := 16) (by kernel_rfl) (fe_length _) (by rw [fe_length]; rfl) ?_; intro w' h1 h2 h4 h3; have H1 := Aside0.mk h1; have S2 := Aside0.mk (S1.out.row 1 rfl h1 h2 h3); clear h1 h2 h3 h4))
  exact bodyPost_ret (results_cell_row Try.results54 _ _ (w.heap.size + 1) 41 _ (0, 0) _ rfl H1.out Try.underlying41 rfl (by rw [arr_size, fe_length]; kernel_rfl)) rfl ⟨c, hc, hm, rfl, S2.out.below⟩
theorem curve_d (d : Nat) (i c : Nat) (hd : (d + 121665) % PP = 0 % PP) (hi : i % PP = 121666 ^ (PP - 2) % PP) (hc : c % PP = d * i % PP) : c % PP = cuN := by
  have h := neg_mod2 d 121665 hd
  rw [hc, Nat.mul_mod, h, hi, ← Prime.pm_eq PP 255 121666 (PP - 2) (by decide)]
  decide +kernel
set_option maxHeartbeats 1000000 in
set_option maxRecDepth 100000 in
theorem spec_l05D.calls (w : World) :
    Calls Try.prog 22 #[] w fun e w' => ∃ c, c < BB ∧ c % PP = cuN ∧ e = .returned (.agg (arr .i64 (fe c))) ∧ Below w.heap.size w w' := by
  have H1 := Aside0.mk (fun W => (show Calls Try.prog 52 #[.int .i64 121665] W _ from spec_l05Small.calls 121665 W (by decide)))
  have H2 := Aside0.mk (fun W => (show Calls Try.prog 52 #[.int .i64 121666] W _ from spec_l05Small.calls 121666 W (by decide)))
  have HU := Aside0.mk (fun W => (show Calls Try.prog 53 #[.agg #[.int .i64 0, .int .i64 0, .int .i64 0, .int .i64 0, .int .i64 0, .int .i64 0, .int .i64 0, .int .i64 0, .int .i64 0, .int .i64 0, .int .i64 0, .int .i64 0, .int .i64 0, .int .i64 0, .int .i64 0, .int .i64 0], .agg (arr .i64 (fe 121665))] W (fun e w' => ∃ c, c < BB ∧ (c + 121665) % PP = 0 % PP ∧ e = .returned (.agg (arr .i64 (fe c))) ∧ Below W.heap.size W w') from by
    have h := spec_l05Sub.calls 0 121665 W (by decide) (by decide)
    rw [show fe 0 = [0, 0, 0, 0, 0, 0, 0, 0, 0, 0, 0, 0, 0, 0, 0, 0] from by decide] at h
    exact h))
  have HI := Aside0.mk (fun W => spec_l05Inverse.calls 121666 W (by decide))
  have S := Aside0.mk ((St.start w).push rfl 41 .i64 z16)
  have HCD := Aside0.mk curve_d
  generalize 121666 ^ (PP - 2) % PP = q at *
  generalize cuN = cn at *
  go_enter Try.func22, Try.ntmps22
  go_wp2_with (first
    | ((with_reducible refine (H1.out _).mono ?_); rintro e w1 ⟨rfl, hb⟩; have S1 := Aside0.mk (S.out.step hb); clear hb)
    | ((refine (HU.out _).mono ?_); rintro e w2 ⟨d, hd, dm, rfl, hb⟩; have S2 := Aside0.mk (S1.out.step hb); clear hb)
    | ((with_reducible refine (H2.out _).mono ?_); rintro e w3 ⟨rfl, hb⟩; have S3 := Aside0.mk (S2.out.step hb); clear hb)
    | ((with_reducible refine (HI.out _).mono ?_); rintro e w4 ⟨i, hi, im, rfl, hb⟩; have S4 := Aside0.mk (S3.out.step hb); clear hb)
    | ((with_reducible refine (spec_l05Mul.calls d i _ hd hi).mono ?_); rintro e w5 ⟨c, hc, cm, rfl, hb⟩; have S5 := Aside0.mk (S4.out.step hb); clear hb)
    | (refine st_arr rfl 41 (.tmp 0) (.tmp 6) rfl w.heap.size (xs := fe c) rfl rfl (S5.out.blk 0 rfl) (m := 16) (by kernel_rfl) (fe_length _) (by rw [fe_length]; rfl) ?_; intro w' h1 h2 h4 h3; have HH := Aside0.mk h1; have S6 := Aside0.mk (S5.out.row 0 rfl h1 h2 h3); clear h1 h2 h3 h4))
  exact bodyPost_ret (results_cell_row Try.results22 _ _ w.heap.size 41 _ (0, 0) _ rfl HH.out Try.underlying41 rfl (by rw [arr_size, fe_length]; kernel_rfl)) rfl ⟨c, hc, HCD.out d i c dm im cm, rfl, S6.out.below⟩
set_option maxHeartbeats 400000 in
set_option maxRecDepth 100000 in
theorem spec_l05Of.calls (A0 : Option Addr) (c0 : Nat) (l0 : List Int) (w : World) (hr0 : Kd.C (Kd.int .u8) w A0 l0.length l0) (h32 : l0.length = 32) (hb : Ok 256 l0) :
    Calls Try.prog 50 #[.slice A0 l0.length c0] w fun e w' => e = .returned (.agg (arr .i64 (ofS l0 16))) ∧ Below w.heap.size w w' := by
  have HR := Aside0.mk hr0
  have H32 := Aside0.mk h32
  have OB := Aside0.mk hb
  clear hr0 hb h32
  go_enter Try.func50, Try.ntmps50
  go_wp2
  go_loopg [4] 16 (fun gg v4 wr => ∃ k : Nat, k ≤ 16 ∧ 16 - k ≤ gg ∧ v4 = .int .i64 k ∧ Aside0 (St w [⟨41, .i64, z16⟩, ⟨41, .i64, ofS l0 k⟩] wr))
  case atStart =>
    exact ⟨0, by omega, by omega, rfl, ⟨((St.start w).push rfl 41 .i64 z16).push (World.size_alloc ..) 41 .i64 z16⟩⟩
  case round =>
    obtain ⟨k, hk, hg, rfl, S⟩ := hrel
    by_cases hlt : k < 16
    · have hlti : (k : Int) < 16 := by omega
      have h32 := H32.out
      obtain ⟨ad, e1, hx⟩ := Kd.at_int (Kd.C_below HR.out S.out.below) (2 * (k : Int)) (by omega) (by omega)
      cases e1
      obtain ⟨ad, e1, hy⟩ := Kd.at_int (Kd.C_below HR.out S.out.below) (2 * (k : Int) + 1) (by omega) (by omega)
      cases e1
      have hc1 := S.out.cell 1 rfl k (by rw [ofS_length]; omega)
      have hf1 := blk_frozen (S.out.blk 1 rfl) k
      have c1 := getD_range OB.out (2 * k) (by omega)
      have c2 := getD_range OB.out (2 * k + 1) (by omega)
      have e1 : rd l0 (2 * (k : Int)) = l0.getD (2 * k) 0 := by rw [rd, show (2 * (k : Int)).toNat = 2 * k from by omega]
      have e2 : rd l0 (2 * (k : Int) + 1) = l0.getD (2 * k + 1) 0 := by rw [rd, show (2 * (k : Int) + 1).toNat = 2 * k + 1 from by omega]
      rw [e1, show (2 * (k : Int)).toNat = 2 * k from by omega] at hx
      rw [e2, show (2 * (k : Int) + 1).toNat = 2 * k + 1 from by omega] at hy
      have P := Aside0.mk ((S.out.set 1 rfl k (l0.getD (2 * k) 0 + 256 * l0.getD (2 * k + 1) 0)).drew)
      have EQ := Aside0.mk (show ofS l0 (k + 1) = (ofS l0 k).set k (l0.getD (2 * k) 0 + 256 * l0.getD (2 * k + 1) 0) from rfl)
      have hl : (2 * (k : Int) + 1) < (l0.length : Int) := by omega
      clear e1 e2
      generalize l0.getD (2 * k) 0 = x at *
      generalize l0.getD (2 * k + 1) 0 = y at *
      obtain ⟨i, hi⟩ : ∃ i : Nat, i = 2 * k := ⟨_, rfl⟩
      obtain ⟨j, hj⟩ : ∃ j : Nat, j = 2 * k + 1 := ⟨_, rfl⟩
      rw [← hi] at hx
      rw [← hj] at hy
      have i1 : 2 * (k : Int) = (i : Int) := by omega
      have j1 : (i : Int) + 1 = (j : Int) := by omega
      have j32 : (j : Int) < 32 := by omega
      have x0 := c1.1
      have x1 : x < 256 := c1.2
      have y0 := c2.1
      have y1 : y < 256 := c2.2
      clear hi hj hl c1 c2
      go_wp2
      go_region
      go_wp2
      go_roundg (16 - (k + 1))
      case measure => omega
      case rel => exact ⟨k + 1, by omega, by omega, by go_num, by rw [EQ.out]; exact P⟩
    · obtain rfl : k = 16 := by omega
      have hneg : ¬ ((16 : Nat) : Int) < 16 := by omega
      have B0 := Aside0.mk (S.out.blk 0 rfl)
      have B1 := Aside0.mk (S.out.blk 1 rfl)
      go_wp2_with (first
        | ((with_reducible refine gate_dst (N := 27) rfl ?_); refine ld_arr rfl 41 (.tmp 3) rfl (w.heap.size + 1) rfl B1.out Try.underlying41 (m := 16) (by kernel_rfl) (ofS_length _ _) ?_)
        | (refine st_arr rfl 41 (.tmp 2) (.tmp 27) rfl w.heap.size (xs := ofS l0 16) rfl rfl B0.out (m := 16) (by kernel_rfl) (ofS_length _ _) (by rw [ofS_length]; rfl) ?_; intro w' h1 h2 h4 h3; have H1 := Aside0.mk h1; have H3 := Aside0.mk h3; clear h1 h2 h3 h4))
      exact bodyPost_ret (results_cell_row Try.results50 _ _ w.heap.size 41 _ (0, 0) _ rfl H1.out Try.underlying41 rfl (by rw [arr_size, ofS_length]; kernel_rfl)) rfl ⟨rfl, H3.out _ _ S.out.below (Nat.le_refl _)⟩
set_option maxHeartbeats 4000000 in
set_option maxRecDepth 100000 in
theorem spec_l05Least.calls (xs : List Int) (w : World) (hb : Bd xs) (hl : xs.length = 16) :
    Calls Try.prog 79 #[.agg (arr .i64 xs)] w fun e w' => e = .returned (.agg (arr .i64 (lstN xs 2))) ∧ Below w.heap.size w w' := by
  have HB := Aside0.mk hb
  have HL := Aside0.mk hl
  have S0 := Aside0.mk (((St.start w).push rfl 41 .i64 xs).push (World.size_alloc ..) 41 .i64 z16)
  have LC := Aside0.mk (carN_bd xs hb hl 3).2
  clear hb hl
  go_enter Try.func79, Try.ntmps79
  go_wp2_with (first
    | ((with_reducible refine gate_dst (N := 8) rfl ?_); refine ld_arr rfl 41 (.tmp 1) rfl w.heap.size rfl (S0.out.blk 0 rfl) Try.underlying41 (m := 16) (by kernel_rfl) HL.out ?_)
    | ((with_reducible refine (spec_l05Carry.calls xs _ HB.out HL.out).mono ?_); rintro e w1 ⟨rfl, hb⟩; have S1 := Aside0.mk (S0.out.step hb); clear hb S0)
    | (refine st_arr rfl 41 (.tmp 1) (.tmp 9) rfl w.heap.size (xs := carN xs 3) rfl rfl (S1.out.blk 0 rfl) (m := 16) (by kernel_rfl) LC.out (by rw [LC.out, HL.out]) ?_; intro w2 h1 h2 h4 h3; have S2 := Aside0.mk (S1.out.row 0 rfl h1 h2 h3); clear h1 h2 h3 h4 S1))
  go_loopg [3, 4, 5, 6, 7] 2 (fun gg v3 _ _ _ _ wr => ∃ n : Nat, n ≤ 2 ∧ 2 - n ≤ gg ∧ v3 = .int .i64 n ∧ Aside0 (St w [⟨41, .i64, lstN xs n⟩, ⟨41, .i64, z16⟩] wr))
  case atStart => exact ⟨0, by omega, by omega, rfl, S2⟩
  case round =>
    obtain ⟨n, hn, hg, rfl, S⟩ := hrel
    obtain ⟨W0, e0⟩ : ∃ W0, W0 = wr := ⟨_, rfl⟩
    subst e0
    by_cases hlt : n < 2
    · have hlti : (n : Int) < 2 := by omega
      have hbs := lstN_bs xs HB.out HL.out n
      have EN := Aside0.mk (show lstN xs (n + 1) = lstR (lstN xs n) from rfl)
      generalize lstN xs n = ys at *
      have YL := Aside0.mk hbs.2
      have ZB := Aside0.mk (lstB_bd ys hbs.1 hbs.2)
      have y1 := (hbs.1 0).1
      have y2 := (hbs.1 0).2
      have EB := Aside0.mk (show lstB ys = ys.set 0 (ys.getD 0 0 + 19) from rfl)
      have ER := Aside0.mk (show lstR ys = (if 32768 ≤ (carS (lstB ys) 16).1.getD 15 0 ∨ 0 < (carS (lstB ys) 16).2 then
    (if 0 < (carS (lstB ys) 16).2 then ((carS (lstB ys) 16).1.set 15 ((carS (lstB ys) 16).1.getD 15 0 - 32768)).set 15 ((carS (lstB ys) 16).1.getD 15 0 - 32768 + 65536) else (carS (lstB ys) 16).1.set 15 ((carS (lstB ys) 16).1.getD 15 0 - 32768))
  else ys) from rfl)
      clear hbs
      obtain ⟨y, hy⟩ : ∃ y, y = ys.getD 0 0 := ⟨_, rfl⟩
      rw [← hy] at y1 y2 EB
      have HY := Aside0.mk hy
      clear hy
      have SZ := Aside0.mk S.out.size
      go_wp2_with (first
        | ((with_reducible refine gate_dst (N := 14) rfl ?_); refine ld_arr rfl 41 (.tmp 1) rfl w.heap.size rfl (S.out.blk 0 rfl) Try.underlying41 (m := 16) (by kernel_rfl) YL.out ?_)
        | (refine st_arr rfl 41 (.tmp 4) (.tmp 14) rfl W0.heap.size (xs := ys) rfl rfl (blk_new W0 (.cells (arr .i64 z16) 41)) (m := 16) (by kernel_rfl) YL.out (by rw [YL.out]; rfl) ?_; intro w2 h1 h2 h4 h3; have S2 := Aside0.mk (St.other (S.out.alloc (.cells (arr .i64 z16) 41)) h2 h3 (by exact SZ.out)); have G := Aside0.mk h1; have hc1 := blk_get h1 0 (by rw [YL.out]; omega); rw [← HY.out] at hc1; have hf1 := blk_frozen h1 0; have S3 := Aside0.mk (S2.out.far W0.heap.size SZ.out 0 (.int .i64 (y + 19))); have G3 := Aside0.mk (blk_upd h1 0 (y + 19)); clear h1 h2 h3 h4 S2 G))
      have zb := ZB.out
      generalize lstB ys = zs at *
      go_loopg [5, 6, 7] 16 (fun gg2 v5 v6 _ wr2 => ∃ k : Nat, k ≤ 16 ∧ 16 - k ≤ gg2 ∧ v6 = .int .i64 k ∧ v5 = .int .i64 (carS zs k).2 ∧ Aside0 (St w [⟨41, .i64, ys⟩, ⟨41, .i64, z16⟩] wr2) ∧ Aside0 (wr2.heap[W0.heap.size]? = some (.cells (arr .i64 (carS zs k).1) 41 (0, 0))))
      case atStart => exact ⟨0, by omega, by omega, rfl, rfl, S3, by have := G3.out; rw [← EB.out] at this; exact ⟨this⟩⟩
      case round =>
        obtain ⟨k, hk, hg2, rfl, rfl, S4, G4⟩ := hrel
        have hcb := carS_bd zs zb.1 k
        have hkb := hcb.1 k
        by_cases hlt2 : k < 16
        · have hlti2 : (k : Int) < 16 := by omega
          have hc1 := blk_get G4.out k (by rw [carS_length, zb.2]; omega)
          have hf1 := blk_frozen G4.out k
          have P := Aside0.mk (S4.out.far W0.heap.size SZ.out k (.int .i64 (((carS zs k).1.getD k 0 + (carS zs k).2) - ((carS zs k).1.getD k 0 + (carS zs k).2) / 65536 * 65536)))
          have PG := Aside0.mk (blk_upd G4.out k (((carS zs k).1.getD k 0 + (carS zs k).2) - ((carS zs k).1.getD k 0 + (carS zs k).2) / 65536 * 65536))
          have EQ := Aside0.mk (show carS zs (k + 1) = ((carS zs k).1.set k (((carS zs k).1.getD k 0 + (carS zs k).2) - ((carS zs k).1.getD k 0 + (carS zs k).2) / 65536 * 65536), ((carS zs k).1.getD k 0 + (carS zs k).2) / 65536) from rfl)
          have a1 := hkb.1
          have a2 := hkb.2
          have a3 := hcb.2.1
          have a4 := hcb.2.2
          clear hcb hkb zb
          generalize (carS zs k).1.getD k 0 = a at *
          generalize (carS zs k).2 = c at *
          have b1 : -4503737066323969 ≤ a + c := by omega
          have b2 : a + c ≤ 4503737066323969 := by omega
          have q1 : -68721573900 ≤ (a + c) / 65536 := by omega
          have q2 : (a + c) / 65536 ≤ 68721573900 := by omega
          go_wp2
          go_roundg (16 - (k + 1))
          case measure => omega
          case rel => refine ⟨k + 1, by omega, by omega, by go_num, ?_, P, by rw [EQ.out]; exact PG⟩; rw [EQ.out]
        · obtain rfl : k = 16 := by omega
          have hneg : ¬ ((16 : Nat) : Int) < 16 := by omega
          have hlo := carS_lo zs zb.2 16 (by omega) 15 (by omega)
          have hc1 := blk_get G4.out 15 (by rw [carS_length, zb.2]; omega)
          have hf1 := blk_frozen G4.out 15
          have L := Aside0.mk (show (carS zs 16).1.length = 16 by rw [carS_length, zb.2])
          have a1 := hlo.1
          have a2 := hlo.2
          clear hcb hkb hlo zb
          generalize carS zs 16 = p at *
          obtain ⟨ps, c⟩ := p
          simp only at *
          have P1 := Aside0.mk (S4.out.far W0.heap.size SZ.out 15 (.int .i64 (ps.getD 15 0 - 32768)))
          have Q1 := Aside0.mk (blk_upd G4.out 15 (ps.getD 15 0 - 32768))
          have P2 := Aside0.mk (P1.out.far W0.heap.size SZ.out 15 (.int .i64 (ps.getD 15 0 - 32768 + 65536)))
          have Q2 := Aside0.mk (blk_upd Q1.out 15 (ps.getD 15 0 - 32768 + 65536))
          have L1 := Aside0.mk (show (ps.set 15 (ps.getD 15 0 - 32768)).length = 16 by rw [List.length_set, L.out])
          have L2 := Aside0.mk (show ((ps.set 15 (ps.getD 15 0 - 32768)).set 15 (ps.getD 15 0 - 32768 + 65536)).length = 16 by rw [List.length_set, List.length_set, L.out])
          generalize ps.getD 15 0 = a at *
          by_cases c0 : 0 < c
          · have E2 := Aside0.mk (ER.out.trans (by rw [if_pos (Or.inr c0), if_pos c0]))
            by_cases c1 : 32768 ≤ a
            all_goals
              go_wp2_with (first
                | ((with_reducible refine gate_dst (N := 53) rfl ?_); refine ld_arr rfl 41 (.tmp 4) rfl W0.heap.size rfl Q2.out Try.underlying41 (m := 16) (by kernel_rfl) L2.out ?_)
                | (refine st_arr rfl 41 (.tmp 1) (.tmp 53) rfl w.heap.size (xs := (ps.set 15 (a - 32768)).set 15 (a - 32768 + 65536)) rfl rfl (P2.out.blk 0 rfl) (m := 16) (by kernel_rfl) L2.out (by rw [YL.out, L2.out]) ?_; intro w2 h1 h2 h4 h3; have S5 := Aside0.mk (P2.out.row 0 rfl h1 h2 h3); clear h1 h2 h3 h4))
              go_roundg (2 - (n + 1))
              case measure => omega
              case rel => exact ⟨n + 1, by omega, by omega, by go_num, by rw [EN.out, E2.out]; exact S5⟩
          · by_cases c1 : 32768 ≤ a
            · have E2 := Aside0.mk (ER.out.trans (by rw [if_pos (Or.inl c1), if_neg c0]))
              go_wp2_with (first
                | ((with_reducible refine gate_dst (N := 53) rfl ?_); refine ld_arr rfl 41 (.tmp 4) rfl W0.heap.size rfl Q1.out Try.underlying41 (m := 16) (by kernel_rfl) L1.out ?_)
                | (refine st_arr rfl 41 (.tmp 1) (.tmp 53) rfl w.heap.size (xs := ps.set 15 (a - 32768)) rfl rfl (P1.out.blk 0 rfl) (m := 16) (by kernel_rfl) L1.out (by rw [YL.out, L1.out]) ?_; intro w2 h1 h2 h4 h3; have S5 := Aside0.mk (P1.out.row 0 rfl h1 h2 h3); clear h1 h2 h3 h4))
              go_roundg (2 - (n + 1))
              case measure => omega
              case rel => exact ⟨n + 1, by omega, by omega, by go_num, by rw [EN.out, E2.out]; exact S5⟩
            · have E2 := Aside0.mk (ER.out.trans (by rw [if_neg (by omega)]))
              go_wp2
              go_roundg (2 - (n + 1))
              case measure => omega
              case rel => exact ⟨n + 1, by omega, by omega, by go_num, by rw [EN.out, E2.out]; exact S4⟩
    · obtain rfl : n = 2 := by omega
      have hneg : ¬ ((2 : Nat) : Int) < 2 := by omega
      have B0 := Aside0.mk (S.out.blk 0 rfl)
      have B1 := Aside0.mk (S.out.blk 1 rfl)
      have L := Aside0.mk (lstN_bs xs HB.out HL.out 2).2
      go_wp2_with (first
        | ((with_reducible refine gate_dst (N := 54) rfl ?_); refine ld_arr rfl 41 (.tmp 1) rfl w.heap.size rfl B0.out Try.underlying41 (m := 16) (by kernel_rfl) L.out ?_)
        | (refine st_arr rfl 41 (.tmp 2) (.tmp 54) rfl (w.heap.size + 1) (xs := lstN xs 2) rfl rfl B1.out (m := 16) (by kernel_rfl) L.out (by rw [L.out]; rfl) ?_; intro w' h1 h2 h4 h3; have H1 := Aside0.mk h1; have H3 := Aside0.mk h3; clear h1 h2 h3 h4))
      exact bodyPost_ret (results_cell_row Try.results79 _ _ (w.heap.size + 1) 41 _ (0, 0) _ rfl H1.out Try.underlying41 rfl (by rw [arr_size, L.out]; kernel_rfl)) rfl ⟨rfl, H3.out _ _ S.out.below (by omega)⟩
set_option maxHeartbeats 4000000 in
set_option maxRecDepth 100000 in
theorem spec_l05Bytes.calls (xs : List Int) (w : World) (hb : Bd xs) (hl : xs.length = 16) (ho : Ok 65536 (lstN xs 2)) :
    Calls Try.prog 57 #[.agg (arr .i64 xs)] w fun e w' => ∃ v0_ : Value, e = .returned (v0_) ∧ Kd.R (Kd.int .u8) 5 w' w.heap.size (fun _ => True) v0_ (bysS (lstN xs 2) 16) ∧ Below w.heap.size w w' := by
  have HL := Aside0.mk hl
  have S0 := Aside0.mk ((St.start w).push rfl 41 .i64 xs)
  have lc := (lstN_bs xs hb hl 2).2
  have hc := fun W => spec_l05Least.calls xs W hb hl
  clear hb hl
  generalize lstN xs 2 = ys at *
  have LC := Aside0.mk lc
  have HO := Aside0.mk ho
  have HC := Aside0.mk hc
  clear lc hc ho
  go_enter Try.func57, Try.ntmps57
  go_wp2_with (first
    | ((with_reducible refine gate_dst (N := 5) rfl ?_); refine ld_arr rfl 41 (.tmp 1) rfl w.heap.size rfl (S0.out.blk 0 rfl) Try.underlying41 (m := 16) (by kernel_rfl) HL.out ?_)
    | ((with_reducible refine (HC.out _).mono ?_); rintro e w1 ⟨rfl, hb⟩; have S1 := Aside0.mk (S0.out.step hb); clear hb S0)
    | (refine st_arr rfl 41 (.tmp 1) (.tmp 6) rfl w.heap.size (xs := ys) rfl rfl (S1.out.blk 0 rfl) (m := 16) (by kernel_rfl) LC.out (by rw [LC.out, HL.out]) ?_; intro w2 h1 h2 h4 h3; have S2 := Aside0.mk (S1.out.row 0 rfl h1 h2 h3); clear h1 h2 h3 h4 S1))
  go_loopg [3, 4] 16 (fun gg v3 v4 wr => ∃ k : Nat, k ≤ 16 ∧ 16 - k ≤ gg ∧ v4 = .int .i64 k ∧ Aside0 (St w [⟨41, .i64, ys⟩] wr) ∧ Aside0 (Kd.R (Kd.int .u8) 5 wr (w.heap.size + 1) (fun _ => True) v3 (bysS ys k)))
  case atStart =>
    exact ⟨0, by omega, by omega, rfl, ⟨S2.out.alloc _⟩, ⟨R_fresh _ _ _ S2.out.size⟩⟩
  case round =>
    obtain ⟨k, hk, hg, rfl, S, HV⟩ := hrel
    obtain ⟨Av, cv, ev⟩ := Kd.R_slice HV.out
    rw [bysS_length] at ev
    subst ev
    by_cases hlt : k < 16
    · have hlti : (k : Int) < 16 := by omega
      have hc1 := S.out.cell 0 rfl k (by rw [LC.out]; omega)
      rw [Nat.add_zero] at hc1
      have ha := getD_range HO.out k (by rw [LC.out]; omega)
      have a0 := ha.1
      have a1 : ys.getD k 0 < 65536 := ha.2
      have HL2 := Aside0.mk (bysS_length ys k)
      have BW := Aside0.mk (Below.refl (w.heap.size + 1) wr)
      have SZ := Aside0.mk S.out.size
      have eq : bysS ys (k + 1) = bysS ys k ++ [ys.getD k 0 % 256, ys.getD k 0 / 256] := rfl
      clear ha
      generalize ys.getD k 0 = a at *
      rw [← show IntKind.u8.wrap (a.tmod 256) = a % 256 from by rw [Int.tmod_eq_emod_of_nonneg a0, IntKind.wrap_u8]; omega, ← show IntKind.u8.wrap (wrap64 (a.tdiv 256)) = a / 256 from by rw [Int.tdiv_eq_ediv_of_nonneg a0, show wrap64 (a / 256) = a / 256 from by unfold wrap64; omega, IntKind.wrap_u8]; omega] at eq
      have EQ := Aside0.mk eq
      clear eq
      obtain ⟨W0, e0⟩ : ∃ W0, W0 = wr := ⟨_, rfl⟩
      subst e0
      have BWD := Aside0.mk (below_drew BW.out)
      have SZD := Aside0.mk (show w.heap.size + 1 ≤ W0.drew.heap.size from Nat.le_trans SZ.out (below_drew BW.out).size)
      go_wp2
      refine start_ (n := 14) (S := fun w' => w'.cell? ⟨w.heap.size, k, none⟩ = some (.int .i64 a)) (ds := [11, 12]) #[false, false, false, false, false, false, false, false, false, false, false, false, false, false] (by kernel_rfl) rfl rfl (hc1) (fun hHeld => ?_)
      refine pure_ (i := 0) (N := some 12) (v := ?_) (a' := ?_) #[true, false, false, false, false, false, false, false, false, false, false, false, false, false] rfl rfl (by kernel_rfl) (fun _ _ _ h => h) (Or.inl ⟨by rfl, ?_⟩) ?_ ?_
      rotate_left
      · intro w'
        go_simp
        with_reducible rfl
      rotate_left
      · simp only [Act.put, List.setIfInBounds_toArray, List.set_cons_zero, List.set_cons_succ, i64_w, i32_w]
        rfl
      refine pure_ (i := 1) (N := some 13) (v := ?_) (a' := ?_) #[true, true, false, false, false, false, false, false, false, false, false, false, false, false] rfl rfl (by kernel_rfl) (fun _ _ _ h => h) (Or.inl ⟨by rfl, ?_⟩) ?_ ?_
      rotate_left
      · intro w'
        go_simp
        with_reducible rfl
      rotate_left
      · simp only [Act.put, List.setIfInBounds_toArray, List.set_cons_zero, List.set_cons_succ, i64_w, i32_w]
        rfl
      refine pure_ (i := 2) (N := some 14) (v := ?_) (a' := ?_) #[true, true, true, false, false, false, false, false, false, false, false, false, false, false] rfl rfl (by kernel_rfl) (fun _ _ _ h => h) (Or.inl ⟨by rfl, ?_⟩) ?_ ?_
      rotate_left
      · intro w'
        go_simp
        with_reducible rfl
      rotate_left
      · simp only [Act.put, List.setIfInBounds_toArray, List.set_cons_zero, List.set_cons_succ, i64_w, i32_w]
        rfl
      refine pure_ (i := 6) (N := some 18) (v := ?_) (a' := ?_) #[true, true, true, false, false, false, true, false, false, false, false, false, false, false] rfl rfl (by kernel_rfl) (fun _ _ _ h => h) (Or.inl ⟨by rfl, ?_⟩) ?_ ?_
      rotate_left
      · intro w'
        go_simp
        with_reducible rfl
      rotate_left
      · simp only [Act.put, List.setIfInBounds_toArray, List.set_cons_zero, List.set_cons_succ, i64_w, i32_w]
        rfl
      refine pure_ (i := 7) (N := some 19) (v := ?_) (a' := ?_) #[true, true, true, false, false, false, true, true, false, false, false, false, false, false] rfl rfl (by kernel_rfl) (fun _ _ _ h => h) (Or.inl ⟨by rfl, ?_⟩) ?_ ?_
      rotate_left
      · intro w'
        go_simp
        with_reducible rfl
      rotate_left
      · simp only [Act.put, List.setIfInBounds_toArray, List.set_cons_zero, List.set_cons_succ, i64_w, i32_w]
        rfl
      refine take_ (i := 3) (N := some 15) (v := ?_) (a' := ?_) #[true, true, true, true, false, false, true, true, false, false, false, false, false, false] rfl rfl (by kernel_rfl) (fun _ _ _ h => h) (Or.inl ⟨by rfl, ?_⟩) hHeld ?_ ?_
      rotate_left
      · intro w' s0
        go_simp
        with_reducible rfl
      rotate_left
      · simp only [Act.put, List.setIfInBounds_toArray, List.set_cons_zero, List.set_cons_succ, i64_w, i32_w]
        rfl
      refine pure_ (i := 4) (N := some 16) (v := ?_) (a' := ?_) #[true, true, true, true, true, false, true, true, false, false, false, false, false, false] rfl rfl (by kernel_rfl) (fun _ _ _ h => h) (Or.inl ⟨by rfl, ?_⟩) ?_ ?_
      rotate_left
      · intro w'
        go_simp
        with_reducible rfl
      rotate_left
      · simp only [Act.put, List.setIfInBounds_toArray, List.set_cons_zero, List.set_cons_succ, i64_w, i32_w]
        rfl
      refine pure_ (i := 5) (N := some 17) (v := ?_) (a' := ?_) #[true, true, true, true, true, true, true, true, false, false, false, false, false, false] rfl rfl (by kernel_rfl) (fun _ _ _ h => h) (Or.inl ⟨by rfl, ?_⟩) ?_ ?_
      rotate_left
      · intro w'
        go_simp
        with_reducible rfl
      rotate_left
      · simp only [Act.put, List.setIfInBounds_toArray, List.set_cons_zero, List.set_cons_succ, i64_w, i32_w]
        rfl
      refine take_ (i := 8) (N := some 20) (v := ?_) (a' := ?_) #[true, true, true, true, true, true, true, true, true, false, false, false, false, false] rfl rfl (by kernel_rfl) (fun _ _ _ h => h) (Or.inl ⟨by rfl, ?_⟩) hHeld ?_ ?_
      rotate_left
      · intro w' s0
        go_simp
        with_reducible rfl
      rotate_left
      · simp only [Act.put, List.setIfInBounds_toArray, List.set_cons_zero, List.set_cons_succ, i64_w, i32_w]
        rfl
      refine pure_ (i := 9) (N := some 21) (v := ?_) (a' := ?_) #[true, true, true, true, true, true, true, true, true, true, false, false, false, false] rfl rfl (by kernel_rfl) (fun _ _ _ h => h) (Or.inl ⟨by rfl, ?_⟩) ?_ ?_
      rotate_left
      · intro w'
        go_simp
        with_reducible rfl
      rotate_left
      · simp only [Act.put, List.setIfInBounds_toArray, List.set_cons_zero, List.set_cons_succ, i64_w, i32_w]
        rfl
      refine pure_ (i := 10) (N := some 22) (v := ?_) (a' := ?_) #[true, true, true, true, true, true, true, true, true, true, true, false, false, false] rfl rfl (by kernel_rfl) (fun _ _ _ h => h) (Or.inl ⟨by rfl, ?_⟩) ?_ ?_
      rotate_left
      · intro w'
        go_simp
        with_reducible rfl
      rotate_left
      · simp only [Act.put, List.setIfInBounds_toArray, List.set_cons_zero, List.set_cons_succ, i64_w, i32_w]
        rfl
      refine last_ (i := 11) (N := some 23) #[true, true, true, true, true, true, true, true, true, true, true, true, false, false] rfl rfl (by kernel_rfl) (by decide) (fun K hK => ?_)
      refine Kd.R_lit_step (Kd.int .u8) _ 5 (by rfl) (N := 23) rfl (xs := ([IntKind.u8.wrap (a.tmod 256), IntKind.u8.wrap (wrap64 (a.tdiv 256))] : List Int)) (inner := [.int .u8 (IntKind.u8.wrap (a.tmod 256)), .int .u8 (IntKind.u8.wrap (wrap64 (a.tdiv 256)))]) (ok := fun _ => True) (okp := fun _ => True) ?hr ?hp (fun _ hk => hk) trivial (Below.refl _ _) (Nat.le_refl _) (by simp) ?_
      case hr => first | (go_simp; done) | (go_simp; rfl)
      case hp => exact (Reps.one (show Kd.M (Kd.int .u8) _ _ _ (IntKind.u8.wrap (a.tmod 256)) [.int .u8 (IntKind.u8.wrap (a.tmod 256))] from rfl) (Reps.one (show Kd.M (Kd.int .u8) _ _ _ (IntKind.u8.wrap (wrap64 (a.tdiv 256))) [.int .u8 (IntKind.u8.wrap (wrap64 (a.tdiv 256)))] from rfl) (Reps.none _ _)))
      intro v5 w5 ho6 hb hg_ hnew_
      clear hg_ hnew_
      have n0_ := Aside0.mk (Kd.R_below (by (with_reducible repeat (first | apply Kd.R_alloc | apply Kd.R_drewN | apply Kd.R_drew)); exact HV.out) hb)
      have n1_ := Aside0.mk (Kd.R_lower (base' := w.heap.size + 1) ho6 SZD.out)
      have n2_ := Aside0.mk (below_stepB BWD.out hb SZD.out)
      clear hb HV BW
      have HV := n0_
      have HN := n1_
      have BW := n2_
      clear n0_ n1_ n2_ ho6
      obtain ⟨An, cn, en⟩ := Kd.R_slice HN.out
      rw [show ([IntKind.u8.wrap (a.tmod 256), IntKind.u8.wrap (wrap64 (a.tdiv 256))] : List Int).length = 2 from rfl] at en
      subst en
      refine hK.out _ _ ?_
      clear hK K
      refine norm_ (a' := ?_) ?_ ?_
      rotate_left
      · show Act.put _ (some 23) _ = _
        simp only [Act.put, List.setIfInBounds_toArray, List.set_cons_zero, List.set_cons_succ, i64_w, i32_w]
        rfl
      refine last_ (i := 12) (N := some 24) #[true, true, true, true, true, true, true, true, true, true, true, true, true, false] rfl rfl (by kernel_rfl) (by decide) (fun K hK => ?_)
      refine Kd.R_append_rows_step (Kd.int .u8) (w0 := W0) (w.heap.size + 1) (by rfl) (.tmp 12) (.tmp 23) 22 5 (.int .u8 0) 1 rfl Try.underlying22 info5 rfl (by decide) (by omega) (.slice Av (2 * k) cv) (bysS ys k) [IntKind.u8.wrap (a.tmod 256), IntKind.u8.wrap (wrap64 (a.tdiv 256))] _ _ _ (fun _ => True) (fun _ => False) rfl rfl (by (with_reducible repeat (first | apply Kd.R_alloc | apply Kd.R_drewN | apply Kd.R_drew)); exact HV.out) (Kd.R_reads' HN.out).2.2 (fun _ _ h => h) (fun _ h => h.elim) (fun _ _ => trivial) BW.out (Nat.le_trans SZ.out BW.out.size) (by have := HL2.out; omega) ?_
      intro v6 w6 ho hb hg_ hat
      rw [← EQ.out] at ho
      have HV2 := Aside0.mk ho
      have BW2 := Aside0.mk hb
      clear hg_ hat ho hb
      refine hK.out _ _ ?_
      clear hK K
      refine norm_ (a' := ?_) ?_ ?_
      rotate_left
      · show Act.put _ (some 24) _ = _
        simp only [Act.put, List.setIfInBounds_toArray, List.set_cons_zero, List.set_cons_succ, i64_w, i32_w]
        rfl
      refine pure_ (i := 13) (N := some 3) (v := ?_) (a' := ?_) #[true, true, true, true, true, true, true, true, true, true, true, true, true, true] rfl rfl (by kernel_rfl) (fun _ _ _ h => h) (Or.inl ⟨by rfl, ?_⟩) ?_ ?_
      rotate_left
      · intro w'
        go_simp
        with_reducible rfl
      rotate_left
      · simp only [Act.put, List.setIfInBounds_toArray, List.set_cons_zero, List.set_cons_succ, i64_w, i32_w]
        rfl
      refine done_ (by kernel_rfl) ?_
      go_wp2
      go_roundg (16 - (k + 1))
      case measure => omega
      case rel => exact ⟨k + 1, by omega, by omega, by go_num, ⟨S.out.stepB BW2.out⟩, ⟨(by (with_reducible repeat (first | apply Kd.R_alloc | apply Kd.R_drewN | apply Kd.R_drew)); exact HV2.out)⟩⟩
    · have hk16 : k = 16 := by omega
      have hneg : ¬ (k : Int) < 16 := by omega
      have HK := Aside0.mk hk16
      clear hk16 hk hlt
      go_wp2
      go_ret
      refine ⟨_, rfl, ?_, S.out.below⟩
      have h1 := Kd.R_lower HV.out (Nat.le_succ _)
      rw [congrArg (bysS ys) HK.out] at h1
      exact h1
set_option maxHeartbeats 1000000 in
set_option maxRecDepth 100000 in
theorem bytes_fe (c : Nat) (w : World) (hc : c < BB) :
    Calls Try.prog 57 #[.agg (arr .i64 (fe c))] w fun e w' => ∃ v0_ : Value, e = .returned (v0_) ∧ Kd.R (Kd.int .u8) 5 w' w.heap.size (fun _ => True) v0_ (limbs 256 32 (c % PP)) ∧ Below w.heap.size w w' := by
  have h := spec_l05Bytes.calls (fe c) w (fe_bd _) (fe_length _) (by rw [lstN_fe _ hc]; exact fe_ok _)
  rw [bys_fe _ hc] at h
  exact h
def spec_l05Is.f (l0 : List Int) : Option (Bool) := if okB l0 then some (isEl l0) else none
set_option maxHeartbeats 400000 in
set_option maxRecDepth 100000 in
theorem spec_l05Is.calls (A0 : Option Addr) (c0 : Nat) (l0 : List Int) (r : Bool) (w : World) (hr0 : Kd.C (Kd.int .u8) w A0 l0.length l0) (hc0 : l0.length ≤ c0) (h : spec_l05Is.f l0 = some r) :
    Calls Try.prog 49 #[.slice A0 l0.length c0] w fun e w' => e = .returned (.bool r) ∧ Below w.heap.size w w' := by
  unfold spec_l05Is.f at h
  by_cases ho : okB l0 = true
  · rw [if_pos ho] at h
    obtain rfl := Option.some.inj h
    clear h
    by_cases hl : l0.length = 32
    · have ok := okB_ok l0 ho
      have hx := bval_lt32 l0 ok hl
      have e : isEl l0 = ((strOfNums (limbs 256 32 (bval l0 % PP))).toList == (strOfNums l0).toList) := by
        have e1 := limbs_lval 256 (by decide) l0 ok
        rw [hl] at e1
        unfold isEl
        rw [decide_eq_true hl, Bool.true_and]
        by_cases hp : bval l0 < PP
        · rw [Nat.mod_eq_of_lt hp, decide_eq_true hp, show limbs 256 32 (bval l0) = l0 from e1, beq_self_eq_true]
        · rw [decide_eq_false hp]
          symm
          rw [beq_eq_false_iff_ne]
          intro hs
          have e2 := str_inj (limbs_ok _ (by decide) _ _) ok hs
          have e3 := lval_limbs 256 (by decide) 32 (bval l0 % PP)
          rw [e2] at e3
          have e4 := bval_cast l0 ok
          have h5 := Nat.mod_lt (bval l0) (show 0 < PP by decide)
          have h6 : PP < 256 ^ 32 := by decide
          rw [Nat.mod_eq_of_lt (by omega)] at e3
          omega
      have CV := Aside0.mk (fun (W : World) (hb : Below w.heap.size w W) => conv_C (P := Try.prog) 22 9 5 Try.underlying22 Try.underlying5 Try.underlying9 W A0 c0 l0 (Kd.C_below hr0 hb) (by omega))
      have HC1 := Aside0.mk (fun (W : World) (hb : Below w.heap.size w W) => spec_l05Of.calls A0 c0 l0 W (Kd.C_below hr0 hb) hl ok)
      have HC2 := Aside0.mk (fun (W : World) => spec_l05Bytes.calls (fe (bval l0)) W (fe_bd _) (fe_length _) (by rw [lstN_fe _ hx]; exact fe_ok _))
      rw [bys_fe _ hx] at HC2
      rw [ofS_fe l0 ok hl, hl] at HC1
      rw [hl] at CV
      rw [hl, e]
      clear e hx ok ho hr0 hc0 hl
      have HB := Aside0.mk (Below.refl w.heap.size w)
      generalize strOfNums l0 = s0 at *
      generalize bval l0 = x at *
      go_enter Try.func49, Try.ntmps49
      go_wp2
      refine start_ (n := 8) (S := fun w' => (convert 22 9 (.slice A0 32 c0)).run Try.prog w' = .ok (.string s0) w') (ds := []) #[false, false, false, false, false, false, false, false] (by kernel_rfl) rfl rfl (CV.out _ (below_drew HB.out)) (fun hHeld => ?_)
      refine pure_ (i := 0) (N := some 6) (v := ?_) (a' := ?_) #[true, false, false, false, false, false, false, false] rfl rfl (by kernel_rfl) (fun _ _ _ h => h) (Or.inl ⟨by rfl, ?_⟩) ?_ ?_
      rotate_left
      · intro w'
        go_simp
        with_reducible rfl
      rotate_left
      · simp only [Act.put, List.setIfInBounds_toArray, List.set_cons_zero, List.set_cons_succ, i64_w, i32_w]
        rfl
      refine pure_ (i := 4) (N := some 10) (v := ?_) (a' := ?_) #[true, false, false, false, true, false, false, false] rfl rfl (by kernel_rfl) (fun _ _ _ h => h) (Or.inl ⟨by rfl, ?_⟩) ?_ ?_
      rotate_left
      · intro w'
        go_simp
        with_reducible rfl
      rotate_left
      · simp only [Act.put, List.setIfInBounds_toArray, List.set_cons_zero, List.set_cons_succ, i64_w, i32_w]
        rfl
      refine take_ (i := 5) (N := some 11) (v := ?_) (a' := ?_) #[true, false, false, false, true, true, false, false] rfl rfl (by kernel_rfl) (fun _ _ _ h => h) (Or.inl ⟨by rfl, ?_⟩) hHeld ?_ ?_
      rotate_left
      · intro w' s0
        go_simp
        with_reducible rfl
      rotate_left
      · simp only [Act.put, List.setIfInBounds_toArray, List.set_cons_zero, List.set_cons_succ, i64_w, i32_w]
        rfl
      refine one_ (i := 1) (N := some 7) #[true, true, false, false, true, true, false, false] rfl rfl (by kernel_rfl) (by decide) (fun K hK => ?_)
      refine goes_ Try.func50 (by kernel_rfl) rfl #[.slice A0 32 c0] (by rfl) rfl rfl (by simp only [List.map_toArray, List.map_cons, List.map_nil]; rfl) ?_
      with_reducible refine (HC1.out _ (below_drew HB.out)).mono ?_
      rintro e w3 ⟨rfl, hb⟩
      refine ⟨_, rfl, ?_⟩
      have B1 := Aside0.mk (below_step (below_drew HB.out) hb)
      clear hb
      refine hK.out _ _ (CV.out _ B1.out) (fun hHeld => ?_)
      clear hK K
      refine norm_ (a' := ?_) ?_ ?_
      rotate_left
      · show Act.put _ (some 7) _ = _
        simp only [Act.put, List.setIfInBounds_toArray, List.set_cons_zero, List.set_cons_succ, i64_w, i32_w]
        rfl
      refine one_ (i := 2) (N := some 8) #[true, true, true, false, true, true, false, false] rfl rfl (by kernel_rfl) (by decide) (fun K hK => ?_)
      refine goes_ Try.func57 (by kernel_rfl) rfl #[.agg (arr .i64 (fe x))] (by rfl) rfl rfl (by simp only [List.map_toArray, List.map_cons, List.map_nil]; rfl) ?_
      with_reducible refine (HC2.out _).mono ?_
      rintro e w4 ⟨v, rfl, ho, hb⟩
      refine ⟨_, rfl, ?_⟩
      have B2 := Aside0.mk (below_step B1.out hb)
      obtain ⟨A5, c5, e5⟩ := Kd.R_slice ho
      rw [limbs_length] at e5
      subst e5
      have hcv := conv_C 22 9 5 Try.underlying22 Try.underlying5 Try.underlying9 w4 A5 c5 (limbs 256 32 (x % PP)) (Kd.R_reads' ho).2.2 (by rw [limbs_length]; omega)
      rw [limbs_length] at hcv
      clear ho hb
      refine hK.out _ _ (CV.out _ B2.out) (fun hHeld => ?_)
      clear hK K
      refine norm_ (a' := ?_) ?_ ?_
      rotate_left
      · show Act.put _ (some 8) _ = _
        simp only [Act.put, List.setIfInBounds_toArray, List.set_cons_zero, List.set_cons_succ, i64_w, i32_w]
        rfl
      refine one_ (i := 3) (N := some 9) #[true, true, true, true, true, true, false, false] rfl rfl (by kernel_rfl) (by decide) (fun K hK => ?_)
      refine value_ (w1 := ?_) (v := ?_) (by rfl) rfl ?_ ?_
      rotate_left 2
      · go_simp
        constructor
        · rfl
        · rfl
      refine hK.out _ _ (CV.out _ B2.out) (fun hHeld => ?_)
      clear hK K
      refine norm_ (a' := ?_) ?_ ?_
      rotate_left
      · show Act.put _ (some 9) _ = _
        simp only [Act.put, List.setIfInBounds_toArray, List.set_cons_zero, List.set_cons_succ, i64_w, i32_w]
        rfl
      refine pure_ (i := 6) (N := some 12) (v := ?_) (a' := ?_) #[true, true, true, true, true, true, true, false] rfl rfl (by kernel_rfl) (fun _ _ _ h => h) (Or.inl ⟨by rfl, ?_⟩) ?_ ?_
      rotate_left
      · intro w'
        go_simp
        with_reducible rfl
      rotate_left
      · simp only [Act.put, List.setIfInBounds_toArray, List.set_cons_zero, List.set_cons_succ, i64_w, i32_w]
        rfl
      refine pure_ (i := 7) (N := some 2) (v := ?_) (a' := ?_) #[true, true, true, true, true, true, true, true] rfl rfl (by kernel_rfl) (fun _ _ _ h => h) (Or.inl ⟨by rfl, ?_⟩) ?_ ?_
      rotate_left
      · intro w'
        go_simp
        with_reducible rfl
      rotate_left
      · simp only [Act.put, List.setIfInBounds_toArray, List.set_cons_zero, List.set_cons_succ, i64_w, i32_w]
        rfl
      refine done_ (by kernel_rfl) ?_
      go_wp2
      go_ret
      exact ⟨rfl, B2.out⟩
    · have e : isEl l0 = false := by unfold isEl; rw [decide_eq_false hl]; rfl
      rw [e]
      have hll : ¬ (l0.length : Int) = 32 := by omega
      go_enter Try.func49, Try.ntmps49
      go_wp2
      go_ret
      exact ⟨rfl, Below.refl _ _⟩
  · rw [if_neg ho] at h; cases h
set_option maxHeartbeats 1000000 in
set_option maxRecDepth 100000 in
theorem spec_l05Same.calls (x y : Nat) (w : World) (hx : x < BB) (hy : y < BB) :
    Calls Try.prog 78 #[.agg (arr .i64 (fe x)), .agg (arr .i64 (fe y))] w fun e w' => e = .returned (.bool (decide (x % PP = y % PP))) ∧ Below w.heap.size w w' := by
  rw [same_str _ _ (Nat.mod_lt x PP_pos) (Nat.mod_lt y PP_pos)]
  have HX := Aside0.mk (fun W => bytes_fe x W hx)
  have HY := Aside0.mk (fun W => bytes_fe y W hy)
  clear hx hy
  generalize limbs 256 32 (x % PP) = la at *
  generalize limbs 256 32 (y % PP) = lb at *
  obtain ⟨s1, hs1⟩ : ∃ s1, s1 = strOfNums la := ⟨_, rfl⟩
  obtain ⟨s2, hs2⟩ : ∃ s2, s2 = strOfNums lb := ⟨_, rfl⟩
  rw [← hs1, ← hs2]
  have HS1 := Aside0.mk hs1
  have HS2 := Aside0.mk hs2
  clear hs1 hs2
  have S := Aside0.mk (((St.start w).push rfl 41 .i64 (fe x)).push (World.size_alloc ..) 41 .i64 (fe y))
  go_enter Try.func78, Try.ntmps78
  go_wp2
  refine abs_world (bs := [⟨41, .i64, fe x⟩, ⟨41, .i64, fe y⟩]) S.out ?_
  clear S
  intro W0 hS
  have T0 := Aside0.mk hS.drew
  clear hS
  refine start_ (n := 8) (S := fun w' => St w [⟨41, .i64, fe x⟩, ⟨41, .i64, fe y⟩] w') (ds := []) #[false, false, false, false, false, false, false, false] (by kernel_rfl) rfl rfl (T0.out) (fun hHeld => ?_)
  refine take_ (i := 0) (N := some 5) (v := ?_) (a' := ?_) #[true, false, false, false, false, false, false, false] rfl rfl (by kernel_rfl) (fun _ _ _ h => h) (Or.inl ⟨by rfl, ?_⟩) hHeld ?_ ?_
  rotate_left
  · intro w' s0
    refine (run_ld 41 (.tmp 2) (by rfl) w.heap.size (by rfl) (s0.blk 0 rfl) Try.underlying41 (m := 16) (by kernel_rfl) (fe_length _)).trans ?_; with_reducible rfl
  rotate_left
  · simp only [Act.put, OpenRow.s1, OpenRow.s2, OpenRow.s3, i64_w, i32_w]; rfl
  refine take_ (i := 3) (N := some 8) (v := ?_) (a' := ?_) #[true, false, false, true, false, false, false, false] rfl rfl (by kernel_rfl) (fun _ _ _ h => h) (Or.inl ⟨by rfl, ?_⟩) hHeld ?_ ?_
  rotate_left
  · intro w' s0
    refine (run_ld 41 (.tmp 3) (by rfl) (w.heap.size + 1) (by rfl) (s0.blk 1 rfl) Try.underlying41 (m := 16) (by kernel_rfl) (fe_length _)).trans ?_; with_reducible rfl
  rotate_left
  · simp only [Act.put, OpenRow.s1, OpenRow.s2, OpenRow.s3, i64_w, i32_w]; rfl
  refine one_ (i := 1) (N := some 6) #[true, true, false, true, false, false, false, false] rfl rfl (by kernel_rfl) (by decide) (fun K hK => ?_)
  refine goes_ Try.func57 (by kernel_rfl) rfl #[.agg (arr .i64 (fe x))] (by rfl) rfl rfl (by simp only [List.map_toArray, List.map_cons, List.map_nil] <;> rfl) ?_
  with_reducible refine (HX.out _).mono ?_
  rintro e w3 ⟨v1, rfl, hR, hb⟩
  refine ⟨_, rfl, ?_⟩
  have T := Aside0.mk (T0.out.step hb)
  have Ra := Aside0.mk hR
  clear hb hR
  refine hK.out _ _ (T.out) (fun hHeld => ?_)
  clear hK K
  refine norm_ (a' := ?_) ?_ ?_
  rotate_left
  · show Act.put _ (some 6) _ = _
    simp only [Act.put, OpenRow.s1, OpenRow.s2, OpenRow.s3, i64_w, i32_w]
    rfl
  refine join_ (σ := Value) 2 #[true, true, true, true, true, true, false, false] (fun s_ => [(7, .string s1), (9, s_), (10, .string s2)]) (fun s_ w' => (St w [⟨41, .i64, fe x⟩, ⟨41, .i64, fe y⟩] w')) ?_ ?_
  rotate_left
  · intro hCont
    refine two_ (i := 2) (j := 4) (Ni := some 7) (Nj := some 9) #[true, true, true, true, false, false, false, false] #[true, true, false, true, true, false, false, false] rfl rfl rfl rfl (by kernel_rfl) (by decide) (by decide) (fun K hK => ?_) (fun K hK => ?_)
    · skip
      have hcv := own_string (P := Try.prog) Try.underlying22 Try.underlying5 Try.underlying9 (Kd.own_of_R Ra.out)
      rw [← HS1.out] at hcv
      refine value_ (w1 := ?_) (v := ?_) (by rfl) rfl ?_ ?_
      rotate_left 2
      · go_simp
        constructor
        · rfl
        · rfl
      clear hcv
      have T_2 := T
      have Ra_2 := Ra
      refine hK.out _ _ (T_2.out) (fun hHeld => ?_)
      clear hK K
      refine norm_ (a' := ?_) ?_ ?_
      rotate_left
      · show Act.put _ (some 7) _ = _
        simp only [Act.put, OpenRow.s1, OpenRow.s2, OpenRow.s3, i64_w, i32_w]
        rfl
      refine one_ (i := 4) (N := some 9) #[true, true, true, true, true, false, false, false] rfl rfl (by kernel_rfl) (by decide) (fun K hK => ?_)
      refine goes_ Try.func57 (by kernel_rfl) rfl #[.agg (arr .i64 (fe y))] (by rfl) rfl rfl (by simp only [List.map_toArray, List.map_cons, List.map_nil] <;> rfl) ?_
      with_reducible refine (HY.out _).mono ?_
      rintro e w3 ⟨v2, rfl, hR, hb⟩
      refine ⟨_, rfl, ?_⟩
      have T_2_4 := Aside0.mk (T_2.out.step hb)
      have Ra_2_4 := Aside0.mk (Kd.R_below Ra_2.out hb)
      have Rb_2_4 := Aside0.mk hR
      clear hb hR
      refine hK.out _ _ (T_2_4.out) (fun hHeld => ?_)
      clear hK K
      refine norm_ (a' := ?_) ?_ ?_
      rotate_left
      · show Act.put _ (some 9) _ = _
        simp only [Act.put, OpenRow.s1, OpenRow.s2, OpenRow.s3, i64_w, i32_w]
        rfl
      refine one_ (i := 5) (N := some 10) #[true, true, true, true, true, true, false, false] rfl rfl (by kernel_rfl) (by decide) (fun K hK => ?_)
      have hcv := own_string (P := Try.prog) Try.underlying22 Try.underlying5 Try.underlying9 (Kd.own_of_R Rb_2_4.out)
      rw [← HS2.out] at hcv
      refine value_ (w1 := ?_) (v := ?_) (by rfl) rfl ?_ ?_
      rotate_left 2
      · go_simp
        constructor
        · rfl
        · rfl
      clear hcv
      have T_2_4_5 := T_2_4
      have Ra_2_4_5 := Ra_2_4
      have Rb_2_4_5 := Rb_2_4
      refine hK.out _ _ (T_2_4_5.out) (fun hHeld => ?_)
      clear hK K
      refine norm_ (a' := ?_) ?_ ?_
      rotate_left
      · show Act.put _ (some 10) _ = _
        simp only [Act.put, OpenRow.s1, OpenRow.s2, OpenRow.s3, i64_w, i32_w]
        rfl
      exact norm_ (by simp only [putAll, Act.put, List.setIfInBounds_toArray, List.set_cons_zero, List.set_cons_succ] <;> rfl) (hCont v2 _ T_2_4_5.out)
    · skip
      refine goes_ Try.func57 (by kernel_rfl) rfl #[.agg (arr .i64 (fe y))] (by rfl) rfl rfl (by simp only [List.map_toArray, List.map_cons, List.map_nil] <;> rfl) ?_
      with_reducible refine (HY.out _).mono ?_
      rintro e w3 ⟨v2, rfl, hR, hb⟩
      refine ⟨_, rfl, ?_⟩
      have T_4 := Aside0.mk (T.out.step hb)
      have Ra_4 := Aside0.mk (Kd.R_below Ra.out hb)
      have Rb_4 := Aside0.mk hR
      clear hb hR
      refine hK.out _ _ (T_4.out) (fun hHeld => ?_)
      clear hK K
      refine norm_ (a' := ?_) ?_ ?_
      rotate_left
      · show Act.put _ (some 9) _ = _
        simp only [Act.put, OpenRow.s1, OpenRow.s2, OpenRow.s3, i64_w, i32_w]
        rfl
      refine two_ (i := 2) (j := 5) (Ni := some 7) (Nj := some 10) #[true, true, true, true, true, false, false, false] #[true, true, false, true, true, true, false, false] rfl rfl rfl rfl (by kernel_rfl) (by decide) (by decide) (fun K hK => ?_) (fun K hK => ?_)
      · skip
        have hcv := own_string (P := Try.prog) Try.underlying22 Try.underlying5 Try.underlying9 (Kd.own_of_R Ra_4.out)
        rw [← HS1.out] at hcv
        refine value_ (w1 := ?_) (v := ?_) (by rfl) rfl ?_ ?_
        rotate_left 2
        · go_simp
          constructor
          · rfl
          · rfl
        clear hcv
        have T_4_2 := T_4
        have Ra_4_2 := Ra_4
        have Rb_4_2 := Rb_4
        refine hK.out _ _ (T_4_2.out) (fun hHeld => ?_)
        clear hK K
        refine norm_ (a' := ?_) ?_ ?_
        rotate_left
        · show Act.put _ (some 7) _ = _
          simp only [Act.put, OpenRow.s1, OpenRow.s2, OpenRow.s3, i64_w, i32_w]
          rfl
        refine one_ (i := 5) (N := some 10) #[true, true, true, true, true, true, false, false] rfl rfl (by kernel_rfl) (by decide) (fun K hK => ?_)
        have hcv := own_string (P := Try.prog) Try.underlying22 Try.underlying5 Try.underlying9 (Kd.own_of_R Rb_4_2.out)
        rw [← HS2.out] at hcv
        refine value_ (w1 := ?_) (v := ?_) (by rfl) rfl ?_ ?_
        rotate_left 2
        · go_simp
          constructor
          · rfl
          · rfl
        clear hcv
        have T_4_2_5 := T_4_2
        have Ra_4_2_5 := Ra_4_2
        have Rb_4_2_5 := Rb_4_2
        refine hK.out _ _ (T_4_2_5.out) (fun hHeld => ?_)
        clear hK K
        refine norm_ (a' := ?_) ?_ ?_
        rotate_left
        · show Act.put _ (some 10) _ = _
          simp only [Act.put, OpenRow.s1, OpenRow.s2, OpenRow.s3, i64_w, i32_w]
          rfl
        exact norm_ (by simp only [putAll, Act.put, List.setIfInBounds_toArray, List.set_cons_zero, List.set_cons_succ] <;> rfl) (hCont v2 _ T_4_2_5.out)
      · skip
        have hcv := own_string (P := Try.prog) Try.underlying22 Try.underlying5 Try.underlying9 (Kd.own_of_R Rb_4.out)
        rw [← HS2.out] at hcv
        refine value_ (w1 := ?_) (v := ?_) (by rfl) rfl ?_ ?_
        rotate_left 2
        · go_simp
          constructor
          · rfl
          · rfl
        clear hcv
        have T_4_5 := T_4
        have Ra_4_5 := Ra_4
        have Rb_4_5 := Rb_4
        refine hK.out _ _ (T_4_5.out) (fun hHeld => ?_)
        clear hK K
        refine norm_ (a' := ?_) ?_ ?_
        rotate_left
        · show Act.put _ (some 10) _ = _
          simp only [Act.put, OpenRow.s1, OpenRow.s2, OpenRow.s3, i64_w, i32_w]
          rfl
        refine one_ (i := 2) (N := some 7) #[true, true, true, true, true, true, false, false] rfl rfl (by kernel_rfl) (by decide) (fun K hK => ?_)
        have hcv := own_string (P := Try.prog) Try.underlying22 Try.underlying5 Try.underlying9 (Kd.own_of_R Ra_4_5.out)
        rw [← HS1.out] at hcv
        refine value_ (w1 := ?_) (v := ?_) (by rfl) rfl ?_ ?_
        rotate_left 2
        · go_simp
          constructor
          · rfl
          · rfl
        clear hcv
        have T_4_5_2 := T_4_5
        have Ra_4_5_2 := Ra_4_5
        have Rb_4_5_2 := Rb_4_5
        refine hK.out _ _ (T_4_5_2.out) (fun hHeld => ?_)
        clear hK K
        refine norm_ (a' := ?_) ?_ ?_
        rotate_left
        · show Act.put _ (some 7) _ = _
          simp only [Act.put, OpenRow.s1, OpenRow.s2, OpenRow.s3, i64_w, i32_w]
          rfl
        exact norm_ (by simp only [putAll, Act.put, List.setIfInBounds_toArray, List.set_cons_zero, List.set_cons_succ] <;> rfl) (hCont v2 _ T_4_5_2.out)
  rintro v2 w9 hHeld
  have T9 := Aside0.mk hHeld
  refine norm_ (a' := ?_) ?_ ?_
  rotate_left
  · simp only [putAll, Act.put, List.setIfInBounds_toArray, List.set_cons_zero, List.set_cons_succ]
    rfl
  refine pure_ (i := 6) (N := some 11) (v := ?_) (a' := ?_) #[true, true, true, true, true, true, true, false] rfl rfl (by kernel_rfl) (fun _ _ _ h => h) (Or.inl ⟨by rfl, ?_⟩) ?_ ?_
  rotate_left
  · intro w'; go_simp; with_reducible rfl
  rotate_left
  · simp only [Act.put, OpenRow.s1, OpenRow.s2, OpenRow.s3, i64_w, i32_w]; rfl
  refine pure_ (i := 7) (N := some 4) (v := ?_) (a' := ?_) #[true, true, true, true, true, true, true, true] rfl rfl (by kernel_rfl) (fun _ _ _ h => h) (Or.inl ⟨by rfl, ?_⟩) ?_ ?_
  rotate_left
  · intro w'; go_simp; with_reducible rfl
  rotate_left
  · simp only [Act.put, OpenRow.s1, OpenRow.s2, OpenRow.s3, i64_w, i32_w]; rfl
  refine done_ (by kernel_rfl) ?_
  go_wp2
  go_ret
  exact ⟨rfl, T9.out.below⟩
set_option maxHeartbeats 4000000 in
set_option maxRecDepth 100000 in
theorem spec_l05Root.calls (a : Nat) (w : World) (ha : a < BB) :
    Calls Try.prog 55 #[.agg (arr .i64 (fe a))] w fun e w' => ∃ c, c < BB ∧ c % PP = (if rtOk (a % PP) = true then rtV (a % PP) else 0) ∧ e = .returned (.tuple #[.agg (arr .i64 (fe c)), .bool (rtOk (a % PP))]) ∧ Below w.heap.size w w' := by
  have HPw := Aside0.mk (fun W => (show Calls Try.prog 77 #[.agg (arr .i64 (fe a)), .int .i64 254, .int .i64 15] W _ from spec_l05Pow.calls a 254 15 W ha (by decide) (by decide)))
  rw [rt0_mod a] at HPw
  have HS2 := Aside0.mk (fun W => (show Calls Try.prog 52 #[.int .i64 2] W _ from spec_l05Small.calls 2 W (by decide)))
  have HPi := Aside0.mk (fun W => (show Calls Try.prog 77 #[.agg (arr .i64 (fe 2)), .int .i64 251, .int .i64 31] W _ from spec_l05Pow.calls 2 251 31 W (by decide) (by decide) (by decide)))
  rw [im_pow] at HPi
  obtain ⟨b, hb⟩ : ∃ b, b = a % PP := ⟨_, rfl⟩
  have hbP : b < PP := by rw [hb]; exact Nat.mod_lt _ PP_pos
  obtain ⟨x, hx⟩ : ∃ x, x = rt0 b := ⟨_, rfl⟩
  obtain ⟨z, hz⟩ : ∃ z, z = rt1 b := ⟨_, rfl⟩
  rw [← hb] at HPw ⊢
  rw [← hx] at HPw
  have HMx := Aside0.mk (fun c W (hc : c < BB) (hm : c % PP = x) => (show Calls Try.prog 51 #[.agg (arr .i64 (fe c)), .agg (arr .i64 (fe c))] W fun e w' => ∃ d, d < BB ∧ d % PP = x * x % PP ∧ e = .returned (.agg (arr .i64 (fe d))) ∧ Below W.heap.size W w' from by
    have h := spec_l05Mul.calls c c W hc hc
    rw [Nat.mul_mod, hm] at h
    exact h))
  have HMz := Aside0.mk (fun c W (hc : c < BB) (hm : c % PP = z) => (show Calls Try.prog 51 #[.agg (arr .i64 (fe c)), .agg (arr .i64 (fe c))] W fun e w' => ∃ d, d < BB ∧ d % PP = z * z % PP ∧ e = .returned (.agg (arr .i64 (fe d))) ∧ Below W.heap.size W w' from by
    have h := spec_l05Mul.calls c c W hc hc
    rw [Nat.mul_mod, hm] at h
    exact h))
  have HMi := Aside0.mk (fun c ci W (hc : c < BB) (hm : c % PP = x) (hci : ci < BB) (him : ci % PP = imN) => (show Calls Try.prog 51 #[.agg (arr .i64 (fe c)), .agg (arr .i64 (fe ci))] W fun e w' => ∃ d, d < BB ∧ d % PP = x * imN % PP ∧ e = .returned (.agg (arr .i64 (fe d))) ∧ Below W.heap.size W w' from by
    have h := spec_l05Mul.calls c ci W hc hci
    rw [Nat.mul_mod, hm, him] at h
    exact h))
  have HSm := Aside0.mk (fun q c W (hc : c < BB) (hm : c % PP = q) => (show Calls Try.prog 78 #[.agg (arr .i64 (fe c)), .agg (arr .i64 (fe a))] W fun e w' => e = .returned (.bool (decide (q = b))) ∧ Below W.heap.size W w' from by
    have h := spec_l05Same.calls c a W hc ha
    rw [hm, ← hb] at h
    exact h))
  have HU := Aside0.mk (fun c W (hc : c < BB) => spec_l05Sub.calls 0 c W (by decide) hc)
  rw [show fe 0 = [0, 0, 0, 0, 0, 0, 0, 0, 0, 0, 0, 0, 0, 0, 0, 0] from by decide] at HU
  have E1 := Aside0.mk (show z = if x * x % PP = b then x else x * imN % PP by rw [hz, hx]; rfl)
  have EO := Aside0.mk (show rtOk b = decide (z * z % PP = b) by rw [hz]; rfl)
  have ER := Aside0.mk hz
  have HSx := Aside0.mk (HSm.out (x * x % PP))
  have HSz := Aside0.mk (HSm.out (z * z % PP))
  clear hx hz hbP ha hb HSm
  generalize hq : x * x % PP = q at *
  generalize hp : z * z % PP = p at *
  generalize hi : x * imN % PP = xi at *
  generalize imN = im at *
  have S := Aside0.mk (((St.start w).push rfl 41 .i64 (fe a)).push (World.size_alloc ..) 41 .i64 z16)
  by_cases h0 : q = b
  · have e1 : z = x := by rw [E1.out, if_pos h0]
    have e2 : p = q := by rw [← hp, ← hq, e1]
    have hok : rtOk b = true := by rw [EO.out, e2, decide_eq_true h0]
    rw [hok, if_pos rfl]
    rw [decide_eq_true h0] at HSx
    rw [e1] at ER
    clear HSz HMz e2 e1 hok hq hp hi h0 E1 EO HMi HPi HS2
    go_enter Try.func55, Try.ntmps55
    go_wp2_with (first
      | ((with_reducible refine gate_dst (N := 6) rfl ?_); refine ld_arr rfl 41 (.tmp 1) rfl w.heap.size rfl (S.out.blk 0 rfl) Try.underlying41 (m := 16) (by kernel_rfl) (fe_length _) ?_)
      | ((refine (HPw.out _).mono ?_); rintro e w1 ⟨c, hc, cm, rfl, hb⟩; have S1 := Aside0.mk (S.out.step hb); clear hb)
      | (refine st_arr rfl 41 (.tmp 4) (.tmp 7) rfl w1.heap.size (xs := fe c) rfl rfl (blk_new w1 (.cells (arr .i64 z16) 41)) (m := 16) (by kernel_rfl) (fe_length _) (by rw [fe_length]; rfl) ?_; intro w2 h1 h2 h4 h3; have A0 := Aside0.mk (blk_drew h1); have V0 := Aside0.mk (St.other (S1.out.alloc (.cells (arr .i64 z16) 41)) h2 h3 S1.out.size).drew; clear h1 h2 h3 h4))
    have HG := Aside0.mk S1.out.size
    generalize w1.heap.size = g at *
    clear S1 S
    go_wp2
    refine start_ (n := 6) (S := fun w' => St w [⟨41, .i64, fe a⟩, ⟨41, .i64, z16⟩] w' ∧ w'.heap[g]? = some (.cells (arr .i64 (fe c)) 41 (0, 0))) (ds := []) #[false, false, false, false, false, false] (by kernel_rfl) rfl rfl ⟨V0.out, A0.out⟩ (fun hHeld => ?_)
    refine take_ (i := 0) (N := some 8) (v := ?_) (a' := ?_) #[true, false, false, false, false, false] rfl rfl (by kernel_rfl) (fun _ _ _ h => h) (Or.inl ⟨by rfl, ?_⟩) hHeld ?_ ?_
    rotate_left
    · rintro w' ⟨s0, s1⟩
      refine (run_ld 41 (.tmp 4) (by rfl) g (by rfl) s1 Try.underlying41 (m := 16) (by kernel_rfl) (fe_length _)).trans ?_; with_reducible rfl
    rotate_left
    · simp only [Act.put, OpenRow.s1, OpenRow.s2, OpenRow.s3, i64_w, i32_w]; rfl
    refine take_ (i := 1) (N := some 9) (v := ?_) (a' := ?_) #[true, true, false, false, false, false] rfl rfl (by kernel_rfl) (fun _ _ _ h => h) (Or.inl ⟨by rfl, ?_⟩) hHeld ?_ ?_
    rotate_left
    · rintro w' ⟨s0, s1⟩
      refine (run_ld 41 (.tmp 4) (by rfl) g (by rfl) s1 Try.underlying41 (m := 16) (by kernel_rfl) (fe_length _)).trans ?_; with_reducible rfl
    rotate_left
    · simp only [Act.put, OpenRow.s1, OpenRow.s2, OpenRow.s3, i64_w, i32_w]; rfl
    refine take_ (i := 3) (N := some 11) (v := ?_) (a' := ?_) #[true, true, false, true, false, false] rfl rfl (by kernel_rfl) (fun _ _ _ h => h) (Or.inl ⟨by rfl, ?_⟩) hHeld ?_ ?_
    rotate_left
    · rintro w' ⟨s0, s1⟩
      refine (run_ld 41 (.tmp 1) (by rfl) w.heap.size (by rfl) (s0.blk 0 rfl) Try.underlying41 (m := 16) (by kernel_rfl) (fe_length _)).trans ?_; with_reducible rfl
    rotate_left
    · simp only [Act.put, OpenRow.s1, OpenRow.s2, OpenRow.s3, i64_w, i32_w]; rfl
    refine one_ (i := 2) (N := some 10) #[true, true, true, true, false, false] rfl rfl (by kernel_rfl) (by decide) (fun K hK => ?_)
    refine goes_ Try.func51 (by kernel_rfl) rfl #[.agg (arr .i64 (fe c)), .agg (arr .i64 (fe c))] (by rfl) rfl rfl (by simp only [List.map_toArray, List.map_cons, List.map_nil] <;> rfl) ?_
    with_reducible refine (HMx.out c _ hc cm).mono ?_
    rintro e w3 ⟨d, hd, dm, rfl, hb⟩
    refine ⟨_, rfl, ?_⟩
    have V1 := Aside0.mk (V0.out.step hb)
    have A1 := Aside0.mk (blk_below A0.out hb)
    clear hb
    refine hK.out _ _ ⟨V1.out, A1.out⟩ (fun hHeld => ?_)
    clear hK K
    refine norm_ (a' := ?_) ?_ ?_
    rotate_left
    · show Act.put _ (some 10) _ = _
      simp only [Act.put, OpenRow.s1, OpenRow.s2, OpenRow.s3, i64_w, i32_w]
      rfl
    refine one_ (i := 4) (N := some 12) #[true, true, true, true, true, false] rfl rfl (by kernel_rfl) (by decide) (fun K hK => ?_)
    refine goes_ Try.func78 (by kernel_rfl) rfl #[.agg (arr .i64 (fe d)), .agg (arr .i64 (fe a))] (by rfl) rfl rfl (by simp only [List.map_toArray, List.map_cons, List.map_nil] <;> rfl) ?_
    with_reducible refine (HSx.out d _ hd dm).mono ?_
    rintro e w3 ⟨rfl, hb⟩
    refine ⟨_, rfl, ?_⟩
    have V2 := Aside0.mk (V1.out.step hb)
    have A2 := Aside0.mk (blk_below A1.out hb)
    clear hb
    refine hK.out _ _ ⟨V2.out, A2.out⟩ (fun hHeld => ?_)
    clear hK K
    refine norm_ (a' := ?_) ?_ ?_
    rotate_left
    · show Act.put _ (some 12) _ = _
      simp only [Act.put, OpenRow.s1, OpenRow.s2, OpenRow.s3, i64_w, i32_w]
      rfl
    refine pure_ (i := 5) (N := some 13) (v := ?_) (a' := ?_) #[true, true, true, true, true, true] rfl rfl (by kernel_rfl) (fun _ _ _ h => h) (Or.inl ⟨by rfl, ?_⟩) ?_ ?_
    rotate_left
    · intro w'; go_simp; with_reducible rfl
    rotate_left
    · simp only [Act.put, OpenRow.s1, OpenRow.s2, OpenRow.s3, i64_w, i32_w]; rfl
    refine done_ (by kernel_rfl) ?_
    go_wp2
    have V3 := Aside0.mk V2.out.drew
    have A3 := Aside0.mk (blk_drew A2.out)
    refine start_ (n := 6) (S := fun w' => St w [⟨41, .i64, fe a⟩, ⟨41, .i64, z16⟩] w' ∧ w'.heap[g]? = some (.cells (arr .i64 (fe c)) 41 (0, 0))) (ds := []) #[false, false, false, false, false, false] (by kernel_rfl) rfl rfl ⟨V3.out, A3.out⟩ (fun hHeld => ?_)
    refine take_ (i := 0) (N := some 19) (v := ?_) (a' := ?_) #[true, false, false, false, false, false] rfl rfl (by kernel_rfl) (fun _ _ _ h => h) (Or.inl ⟨by rfl, ?_⟩) hHeld ?_ ?_
    rotate_left
    · rintro w' ⟨s0, s1⟩
      refine (run_ld 41 (.tmp 4) (by rfl) g (by rfl) s1 Try.underlying41 (m := 16) (by kernel_rfl) (fe_length _)).trans ?_; with_reducible rfl
    rotate_left
    · simp only [Act.put, OpenRow.s1, OpenRow.s2, OpenRow.s3, i64_w, i32_w]; rfl
    refine take_ (i := 1) (N := some 20) (v := ?_) (a' := ?_) #[true, true, false, false, false, false] rfl rfl (by kernel_rfl) (fun _ _ _ h => h) (Or.inl ⟨by rfl, ?_⟩) hHeld ?_ ?_
    rotate_left
    · rintro w' ⟨s0, s1⟩
      refine (run_ld 41 (.tmp 4) (by rfl) g (by rfl) s1 Try.underlying41 (m := 16) (by kernel_rfl) (fe_length _)).trans ?_; with_reducible rfl
    rotate_left
    · simp only [Act.put, OpenRow.s1, OpenRow.s2, OpenRow.s3, i64_w, i32_w]; rfl
    refine take_ (i := 3) (N := some 22) (v := ?_) (a' := ?_) #[true, true, false, true, false, false] rfl rfl (by kernel_rfl) (fun _ _ _ h => h) (Or.inl ⟨by rfl, ?_⟩) hHeld ?_ ?_
    rotate_left
    · rintro w' ⟨s0, s1⟩
      refine (run_ld 41 (.tmp 1) (by rfl) w.heap.size (by rfl) (s0.blk 0 rfl) Try.underlying41 (m := 16) (by kernel_rfl) (fe_length _)).trans ?_; with_reducible rfl
    rotate_left
    · simp only [Act.put, OpenRow.s1, OpenRow.s2, OpenRow.s3, i64_w, i32_w]; rfl
    refine one_ (i := 2) (N := some 21) #[true, true, true, true, false, false] rfl rfl (by kernel_rfl) (by decide) (fun K hK => ?_)
    refine goes_ Try.func51 (by kernel_rfl) rfl #[.agg (arr .i64 (fe c)), .agg (arr .i64 (fe c))] (by rfl) rfl rfl (by simp only [List.map_toArray, List.map_cons, List.map_nil] <;> rfl) ?_
    with_reducible refine (HMx.out c _ hc cm).mono ?_
    rintro e w3 ⟨d, hd, dm, rfl, hb⟩
    refine ⟨_, rfl, ?_⟩
    have V4 := Aside0.mk (V3.out.step hb)
    have A4 := Aside0.mk (blk_below A3.out hb)
    clear hb
    refine hK.out _ _ ⟨V4.out, A4.out⟩ (fun hHeld => ?_)
    clear hK K
    refine norm_ (a' := ?_) ?_ ?_
    rotate_left
    · show Act.put _ (some 21) _ = _
      simp only [Act.put, OpenRow.s1, OpenRow.s2, OpenRow.s3, i64_w, i32_w]
      rfl
    refine one_ (i := 4) (N := some 23) #[true, true, true, true, true, false] rfl rfl (by kernel_rfl) (by decide) (fun K hK => ?_)
    refine goes_ Try.func78 (by kernel_rfl) rfl #[.agg (arr .i64 (fe d)), .agg (arr .i64 (fe a))] (by rfl) rfl rfl (by simp only [List.map_toArray, List.map_cons, List.map_nil] <;> rfl) ?_
    with_reducible refine (HSx.out d _ hd dm).mono ?_
    rintro e w3 ⟨rfl, hb⟩
    refine ⟨_, rfl, ?_⟩
    have V5 := Aside0.mk (V4.out.step hb)
    have A5 := Aside0.mk (blk_below A4.out hb)
    clear hb
    refine hK.out _ _ ⟨V5.out, A5.out⟩ (fun hHeld => ?_)
    clear hK K
    refine norm_ (a' := ?_) ?_ ?_
    rotate_left
    · show Act.put _ (some 23) _ = _
      simp only [Act.put, OpenRow.s1, OpenRow.s2, OpenRow.s3, i64_w, i32_w]
      rfl
    refine pure_ (i := 5) (N := some 24) (v := ?_) (a' := ?_) #[true, true, true, true, true, true] rfl rfl (by kernel_rfl) (fun _ _ _ h => h) (Or.inl ⟨by rfl, ?_⟩) ?_ ?_
    rotate_left
    · intro w'; go_simp; with_reducible rfl
    rotate_left
    · simp only [Act.put, OpenRow.s1, OpenRow.s2, OpenRow.s3, i64_w, i32_w]; rfl
    refine done_ (by kernel_rfl) ?_
    have hz8 := limbs_getD 256 32 x 0 (by omega)
    rw [Nat.pow_zero, Nat.div_one] at hz8
    obtain ⟨v0, hv0⟩ : ∃ v0 : Int, v0 = ((x % 256 : Nat) : Int) := ⟨_, rfl⟩
    have HV0 := Aside0.mk (show rd (limbs 256 32 x) (0 : Int) = v0 by rw [hv0, ← hz8]; simp [rd])
    rcases Nat.mod_two_eq_zero_or_one x with ho | ho
    · have q1 : v0 % 2 = 0 := by omega
      have q2 : v0.tmod 2 = 0 := by rw [Int.tmod_eq_emod_of_nonneg (by omega)]; exact q1
      have EV := Aside0.mk (show rtV b = x by unfold rtV; rw [← ER.out, if_neg (by omega)])
      clear hv0 ho hz8
      go_wp2_with (first
        | ((with_reducible refine gate_dst (N := 26) rfl ?_); refine ld_arr rfl 41 (.tmp 4) rfl g rfl A5.out Try.underlying41 (m := 16) (by kernel_rfl) (fe_length _) ?_)
        | ((with_reducible refine (bytes_fe c _ hc).mono ?_); rintro e w8 ⟨vb, rfl, hR, hb⟩; rw [cm] at hR; obtain ⟨gv, cv, ev, _, _, _⟩ := Kd.R_form hR (by rw [limbs_length]; omega); rw [limbs_length] at ev; subst ev; obtain ⟨hx0, _⟩ := Kd.R_celln 0 hR (0 : Int) (by omega) (by omega); have hx1 : w8.cell? ⟨gv, 0, none⟩ = some (.int .u8 v0) := hx0.trans (congrArg some (congrArg (Value.int .u8) HV0.out)); clear hx0; have V8 := Aside0.mk (V5.out.step hb); have A8 := Aside0.mk (blk_below A5.out hb); clear hb hR)
        | ((with_reducible refine gate_dst (N := 35) rfl ?_); refine ld_arr rfl 41 (.tmp 4) rfl g rfl A8.out Try.underlying41 (m := 16) (by kernel_rfl) (fe_length _) ?_)
        | (refine st_arr rfl 41 (.tmp 2) (.tmp 35) rfl (w.heap.size + 1) (xs := fe c) rfl rfl (V8.out.blk 1 rfl) (m := 16) (by kernel_rfl) (fe_length _) (by rw [fe_length]; rfl) ?_; intro w' h1 h2 h4 h3; have H1 := Aside0.mk h1; have V9 := Aside0.mk (V8.out.row 1 rfl h1 h2 h3); clear h1 h2 h3 h4))
      exact bodyPost_ret (results_ct Try.results55 _ _ (w.heap.size + 1) 41 _ (0, 0) _ rfl H1.out Try.underlying41 rfl (by rw [arr_size, fe_length]; kernel_rfl)) rfl ⟨c, hc, by rw [EV.out, cm], rfl, V9.out.below⟩
    · have q1 : v0 % 2 = 1 := by omega
      have q2 : v0.tmod 2 = 1 := by rw [Int.tmod_eq_emod_of_nonneg (by omega)]; exact q1
      have EV := Aside0.mk (show rtV b = (PP - x) % PP by unfold rtV; rw [← ER.out, if_pos ho])
      have HN := Aside0.mk (fun W => (show Calls Try.prog 53 #[.agg #[.int .i64 0, .int .i64 0, .int .i64 0, .int .i64 0, .int .i64 0, .int .i64 0, .int .i64 0, .int .i64 0, .int .i64 0, .int .i64 0, .int .i64 0, .int .i64 0, .int .i64 0, .int .i64 0, .int .i64 0, .int .i64 0], .agg (arr .i64 (fe c))] W _ from HU.out c W hc))
      clear hv0 ho hz8
      go_wp2_with (first
        | ((with_reducible refine gate_dst (N := 26) rfl ?_); refine ld_arr rfl 41 (.tmp 4) rfl g rfl A5.out Try.underlying41 (m := 16) (by kernel_rfl) (fe_length _) ?_)
        | ((with_reducible refine (bytes_fe c _ hc).mono ?_); rintro e w8 ⟨vb, rfl, hR, hb⟩; rw [cm] at hR; obtain ⟨gv, cv, ev, _, _, _⟩ := Kd.R_form hR (by rw [limbs_length]; omega); rw [limbs_length] at ev; subst ev; obtain ⟨hx0, _⟩ := Kd.R_celln 0 hR (0 : Int) (by omega) (by omega); have hx1 : w8.cell? ⟨gv, 0, none⟩ = some (.int .u8 v0) := hx0.trans (congrArg some (congrArg (Value.int .u8) HV0.out)); clear hx0; have V8 := Aside0.mk (V5.out.step hb); have A8 := Aside0.mk (blk_below A5.out hb); clear hb hR)
        | ((with_reducible refine gate_dst (N := 33) rfl ?_); refine ld_arr rfl 41 (.tmp 4) rfl g rfl A8.out Try.underlying41 (m := 16) (by kernel_rfl) (fe_length _) ?_)
        | ((refine (HN.out _).mono ?_); rintro e w9 ⟨d9, hd9, dm9, rfl, hb⟩; have V9 := Aside0.mk (V8.out.step hb); have A9 := Aside0.mk (blk_below A8.out hb); clear hb)
        | (refine st_arr rfl 41 (.tmp 4) (.tmp 34) rfl g (xs := fe d9) rfl rfl A9.out (m := 16) (by kernel_rfl) (fe_length _) (by rw [fe_length, fe_length]) ?_; intro w7 h1 h2 h4 h3; have A10 := Aside0.mk h1; have V10 := Aside0.mk (St.other V9.out h2 h3 HG.out); clear h1 h2 h3 h4)
        | ((with_reducible refine gate_dst (N := 35) rfl ?_); refine ld_arr rfl 41 (.tmp 4) rfl g rfl A10.out Try.underlying41 (m := 16) (by kernel_rfl) (fe_length _) ?_)
        | (refine st_arr rfl 41 (.tmp 2) (.tmp 35) rfl (w.heap.size + 1) (xs := fe d9) rfl rfl (V10.out.blk 1 rfl) (m := 16) (by kernel_rfl) (fe_length _) (by rw [fe_length]; rfl) ?_; intro w' h1 h2 h4 h3; have H1 := Aside0.mk h1; have V11 := Aside0.mk (V10.out.row 1 rfl h1 h2 h3); clear h1 h2 h3 h4))
      exact bodyPost_ret (results_ct Try.results55 _ _ (w.heap.size + 1) 41 _ (0, 0) _ rfl H1.out Try.underlying41 rfl (by rw [arr_size, fe_length]; kernel_rfl)) rfl ⟨d9, hd9, by rw [EV.out, neg_mod2 d9 c dm9, cm], rfl, V11.out.below⟩
  · rw [if_neg h0] at E1
    have e1 := E1.out
    subst e1
    rw [decide_eq_false h0] at HSx
    by_cases h1 : p = b
    · have hok : rtOk b = true := by rw [EO.out, decide_eq_true h1]
      rw [hok, if_pos rfl]
      rw [decide_eq_true h1] at HSz
      clear hok hq hp hi h0 h1 E1 EO
      go_enter Try.func55, Try.ntmps55
      go_wp2_with (first
        | ((with_reducible refine gate_dst (N := 6) rfl ?_); refine ld_arr rfl 41 (.tmp 1) rfl w.heap.size rfl (S.out.blk 0 rfl) Try.underlying41 (m := 16) (by kernel_rfl) (fe_length _) ?_)
        | ((refine (HPw.out _).mono ?_); rintro e w1 ⟨c, hc, cm, rfl, hb⟩; have S1 := Aside0.mk (S.out.step hb); clear hb)
        | (refine st_arr rfl 41 (.tmp 4) (.tmp 7) rfl w1.heap.size (xs := fe c) rfl rfl (blk_new w1 (.cells (arr .i64 z16) 41)) (m := 16) (by kernel_rfl) (fe_length _) (by rw [fe_length]; rfl) ?_; intro w2 h1 h2 h4 h3; have A0 := Aside0.mk (blk_drew h1); have V0 := Aside0.mk (St.other (S1.out.alloc (.cells (arr .i64 z16) 41)) h2 h3 S1.out.size).drew; clear h1 h2 h3 h4))
      have HG := Aside0.mk S1.out.size
      generalize w1.heap.size = g at *
      clear S1 S
      go_wp2
      refine start_ (n := 6) (S := fun w' => St w [⟨41, .i64, fe a⟩, ⟨41, .i64, z16⟩] w' ∧ w'.heap[g]? = some (.cells (arr .i64 (fe c)) 41 (0, 0))) (ds := []) #[false, false, false, false, false, false] (by kernel_rfl) rfl rfl ⟨V0.out, A0.out⟩ (fun hHeld => ?_)
      refine take_ (i := 0) (N := some 8) (v := ?_) (a' := ?_) #[true, false, false, false, false, false] rfl rfl (by kernel_rfl) (fun _ _ _ h => h) (Or.inl ⟨by rfl, ?_⟩) hHeld ?_ ?_
      rotate_left
      · rintro w' ⟨s0, s1⟩
        refine (run_ld 41 (.tmp 4) (by rfl) g (by rfl) s1 Try.underlying41 (m := 16) (by kernel_rfl) (fe_length _)).trans ?_; with_reducible rfl
      rotate_left
      · simp only [Act.put, OpenRow.s1, OpenRow.s2, OpenRow.s3, i64_w, i32_w]; rfl
      refine take_ (i := 1) (N := some 9) (v := ?_) (a' := ?_) #[true, true, false, false, false, false] rfl rfl (by kernel_rfl) (fun _ _ _ h => h) (Or.inl ⟨by rfl, ?_⟩) hHeld ?_ ?_
      rotate_left
      · rintro w' ⟨s0, s1⟩
        refine (run_ld 41 (.tmp 4) (by rfl) g (by rfl) s1 Try.underlying41 (m := 16) (by kernel_rfl) (fe_length _)).trans ?_; with_reducible rfl
      rotate_left
      · simp only [Act.put, OpenRow.s1, OpenRow.s2, OpenRow.s3, i64_w, i32_w]; rfl
      refine take_ (i := 3) (N := some 11) (v := ?_) (a' := ?_) #[true, true, false, true, false, false] rfl rfl (by kernel_rfl) (fun _ _ _ h => h) (Or.inl ⟨by rfl, ?_⟩) hHeld ?_ ?_
      rotate_left
      · rintro w' ⟨s0, s1⟩
        refine (run_ld 41 (.tmp 1) (by rfl) w.heap.size (by rfl) (s0.blk 0 rfl) Try.underlying41 (m := 16) (by kernel_rfl) (fe_length _)).trans ?_; with_reducible rfl
      rotate_left
      · simp only [Act.put, OpenRow.s1, OpenRow.s2, OpenRow.s3, i64_w, i32_w]; rfl
      refine one_ (i := 2) (N := some 10) #[true, true, true, true, false, false] rfl rfl (by kernel_rfl) (by decide) (fun K hK => ?_)
      refine goes_ Try.func51 (by kernel_rfl) rfl #[.agg (arr .i64 (fe c)), .agg (arr .i64 (fe c))] (by rfl) rfl rfl (by simp only [List.map_toArray, List.map_cons, List.map_nil] <;> rfl) ?_
      with_reducible refine (HMx.out c _ hc cm).mono ?_
      rintro e w3 ⟨d, hd, dm, rfl, hb⟩
      refine ⟨_, rfl, ?_⟩
      have V1 := Aside0.mk (V0.out.step hb)
      have A1 := Aside0.mk (blk_below A0.out hb)
      clear hb
      refine hK.out _ _ ⟨V1.out, A1.out⟩ (fun hHeld => ?_)
      clear hK K
      refine norm_ (a' := ?_) ?_ ?_
      rotate_left
      · show Act.put _ (some 10) _ = _
        simp only [Act.put, OpenRow.s1, OpenRow.s2, OpenRow.s3, i64_w, i32_w]
        rfl
      refine one_ (i := 4) (N := some 12) #[true, true, true, true, true, false] rfl rfl (by kernel_rfl) (by decide) (fun K hK => ?_)
      refine goes_ Try.func78 (by kernel_rfl) rfl #[.agg (arr .i64 (fe d)), .agg (arr .i64 (fe a))] (by rfl) rfl rfl (by simp only [List.map_toArray, List.map_cons, List.map_nil] <;> rfl) ?_
      with_reducible refine (HSx.out d _ hd dm).mono ?_
      rintro e w3 ⟨rfl, hb⟩
      refine ⟨_, rfl, ?_⟩
      have V2 := Aside0.mk (V1.out.step hb)
      have A2 := Aside0.mk (blk_below A1.out hb)
      clear hb
      refine hK.out _ _ ⟨V2.out, A2.out⟩ (fun hHeld => ?_)
      clear hK K
      refine norm_ (a' := ?_) ?_ ?_
      rotate_left
      · show Act.put _ (some 12) _ = _
        simp only [Act.put, OpenRow.s1, OpenRow.s2, OpenRow.s3, i64_w, i32_w]
        rfl
      refine pure_ (i := 5) (N := some 13) (v := ?_) (a' := ?_) #[true, true, true, true, true, true] rfl rfl (by kernel_rfl) (fun _ _ _ h => h) (Or.inl ⟨by rfl, ?_⟩) ?_ ?_
      rotate_left
      · intro w'; go_simp; with_reducible rfl
      rotate_left
      · simp only [Act.put, OpenRow.s1, OpenRow.s2, OpenRow.s3, i64_w, i32_w]; rfl
      refine done_ (by kernel_rfl) ?_
      go_wp2_with (first
        | ((refine (HS2.out _).mono ?_); rintro e w4 ⟨rfl, hb⟩; have V3 := Aside0.mk (V2.out.step hb); have A3 := Aside0.mk (blk_below A2.out hb); clear hb)
        | ((refine (HPi.out _).mono ?_); rintro e w5 ⟨ci, hci, cim, rfl, hb⟩; have V4 := Aside0.mk (V3.out.step hb); have A4 := Aside0.mk (blk_below A3.out hb); clear hb)
        | (refine st_arr rfl 41 (.tmp 5) (.tmp 15) rfl w5.heap.size (xs := fe ci) rfl rfl (blk_new w5 (.cells (arr .i64 z16) 41)) (m := 16) (by kernel_rfl) (fe_length _) (by rw [fe_length]; rfl) ?_; intro w6 h1 h2 h4 h3; have G5 := Aside0.mk h1; have V5 := Aside0.mk (St.other (V4.out.alloc (.cells (arr .i64 z16) 41)) h2 h3 V4.out.size); have A5 := Aside0.mk ((h2 _ (ne_of_blk A4.out)).trans (blk_alloc A4.out _)); clear h1 h2 h3 h4)
        | ((with_reducible refine gate_dst (N := 16) rfl ?_); refine ld_arr rfl 41 (.tmp 4) rfl g rfl A5.out Try.underlying41 (m := 16) (by kernel_rfl) (fe_length _) ?_)
        | ((with_reducible refine gate_dst (N := 17) rfl ?_); refine ld_arr rfl 41 (.tmp 5) rfl w5.heap.size rfl G5.out Try.underlying41 (m := 16) (by kernel_rfl) (fe_length _) ?_)
        | ((with_reducible refine (HMi.out c ci _ hc cm hci cim).mono ?_); rintro e w7 ⟨cz, hcz, czm, rfl, hb⟩; have V6 := Aside0.mk (V5.out.step hb); have A6 := Aside0.mk (blk_below A5.out hb); clear hb)
        | (refine st_arr rfl 41 (.tmp 4) (.tmp 18) rfl g (xs := fe cz) rfl rfl A6.out (m := 16) (by kernel_rfl) (fe_length _) (by rw [fe_length, fe_length]) ?_; intro w7 h1 h2 h4 h3; have A7 := Aside0.mk h1; have V7 := Aside0.mk (St.other V6.out h2 h3 HG.out); clear h1 h2 h3 h4))
      have V8 := Aside0.mk V7.out.drew
      have A8 := Aside0.mk (blk_drew A7.out)
      refine start_ (n := 6) (S := fun w' => St w [⟨41, .i64, fe a⟩, ⟨41, .i64, z16⟩] w' ∧ w'.heap[g]? = some (.cells (arr .i64 (fe cz)) 41 (0, 0))) (ds := []) #[false, false, false, false, false, false] (by kernel_rfl) rfl rfl ⟨V8.out, A8.out⟩ (fun hHeld => ?_)
      refine take_ (i := 0) (N := some 19) (v := ?_) (a' := ?_) #[true, false, false, false, false, false] rfl rfl (by kernel_rfl) (fun _ _ _ h => h) (Or.inl ⟨by rfl, ?_⟩) hHeld ?_ ?_
      rotate_left
      · rintro w' ⟨s0, s1⟩
        refine (run_ld 41 (.tmp 4) (by rfl) g (by rfl) s1 Try.underlying41 (m := 16) (by kernel_rfl) (fe_length _)).trans ?_; with_reducible rfl
      rotate_left
      · simp only [Act.put, OpenRow.s1, OpenRow.s2, OpenRow.s3, i64_w, i32_w]; rfl
      refine take_ (i := 1) (N := some 20) (v := ?_) (a' := ?_) #[true, true, false, false, false, false] rfl rfl (by kernel_rfl) (fun _ _ _ h => h) (Or.inl ⟨by rfl, ?_⟩) hHeld ?_ ?_
      rotate_left
      · rintro w' ⟨s0, s1⟩
        refine (run_ld 41 (.tmp 4) (by rfl) g (by rfl) s1 Try.underlying41 (m := 16) (by kernel_rfl) (fe_length _)).trans ?_; with_reducible rfl
      rotate_left
      · simp only [Act.put, OpenRow.s1, OpenRow.s2, OpenRow.s3, i64_w, i32_w]; rfl
      refine take_ (i := 3) (N := some 22) (v := ?_) (a' := ?_) #[true, true, false, true, false, false] rfl rfl (by kernel_rfl) (fun _ _ _ h => h) (Or.inl ⟨by rfl, ?_⟩) hHeld ?_ ?_
      rotate_left
      · rintro w' ⟨s0, s1⟩
        refine (run_ld 41 (.tmp 1) (by rfl) w.heap.size (by rfl) (s0.blk 0 rfl) Try.underlying41 (m := 16) (by kernel_rfl) (fe_length _)).trans ?_; with_reducible rfl
      rotate_left
      · simp only [Act.put, OpenRow.s1, OpenRow.s2, OpenRow.s3, i64_w, i32_w]; rfl
      refine one_ (i := 2) (N := some 21) #[true, true, true, true, false, false] rfl rfl (by kernel_rfl) (by decide) (fun K hK => ?_)
      refine goes_ Try.func51 (by kernel_rfl) rfl #[.agg (arr .i64 (fe cz)), .agg (arr .i64 (fe cz))] (by rfl) rfl rfl (by simp only [List.map_toArray, List.map_cons, List.map_nil] <;> rfl) ?_
      with_reducible refine (HMz.out cz _ hcz czm).mono ?_
      rintro e w3 ⟨d5, hd5, d5m, rfl, hb⟩
      refine ⟨_, rfl, ?_⟩
      have V9 := Aside0.mk (V8.out.step hb)
      have A9 := Aside0.mk (blk_below A8.out hb)
      clear hb
      refine hK.out _ _ ⟨V9.out, A9.out⟩ (fun hHeld => ?_)
      clear hK K
      refine norm_ (a' := ?_) ?_ ?_
      rotate_left
      · show Act.put _ (some 21) _ = _
        simp only [Act.put, OpenRow.s1, OpenRow.s2, OpenRow.s3, i64_w, i32_w]
        rfl
      refine one_ (i := 4) (N := some 23) #[true, true, true, true, true, false] rfl rfl (by kernel_rfl) (by decide) (fun K hK => ?_)
      refine goes_ Try.func78 (by kernel_rfl) rfl #[.agg (arr .i64 (fe d5)), .agg (arr .i64 (fe a))] (by rfl) rfl rfl (by simp only [List.map_toArray, List.map_cons, List.map_nil] <;> rfl) ?_
      with_reducible refine (HSz.out d5 _ hd5 d5m).mono ?_
      rintro e w3 ⟨rfl, hb⟩
      refine ⟨_, rfl, ?_⟩
      have V10 := Aside0.mk (V9.out.step hb)
      have A10 := Aside0.mk (blk_below A9.out hb)
      clear hb
      refine hK.out _ _ ⟨V10.out, A10.out⟩ (fun hHeld => ?_)
      clear hK K
      refine norm_ (a' := ?_) ?_ ?_
      rotate_left
      · show Act.put _ (some 23) _ = _
        simp only [Act.put, OpenRow.s1, OpenRow.s2, OpenRow.s3, i64_w, i32_w]
        rfl
      refine pure_ (i := 5) (N := some 24) (v := ?_) (a' := ?_) #[true, true, true, true, true, true] rfl rfl (by kernel_rfl) (fun _ _ _ h => h) (Or.inl ⟨by rfl, ?_⟩) ?_ ?_
      rotate_left
      · intro w'; go_simp; with_reducible rfl
      rotate_left
      · simp only [Act.put, OpenRow.s1, OpenRow.s2, OpenRow.s3, i64_w, i32_w]; rfl
      refine done_ (by kernel_rfl) ?_
      have hz8 := limbs_getD 256 32 z 0 (by omega)
      rw [Nat.pow_zero, Nat.div_one] at hz8
      obtain ⟨v0, hv0⟩ : ∃ v0 : Int, v0 = ((z % 256 : Nat) : Int) := ⟨_, rfl⟩
      have HV0 := Aside0.mk (show rd (limbs 256 32 z) (0 : Int) = v0 by rw [hv0, ← hz8]; simp [rd])
      rcases Nat.mod_two_eq_zero_or_one z with ho | ho
      · have q1 : v0 % 2 = 0 := by omega
        have q2 : v0.tmod 2 = 0 := by rw [Int.tmod_eq_emod_of_nonneg (by omega)]; exact q1
        have EV := Aside0.mk (show rtV b = z by unfold rtV; rw [← ER.out, if_neg (by omega)])
        clear hv0 ho hz8
        go_wp2_with (first
          | ((with_reducible refine gate_dst (N := 26) rfl ?_); refine ld_arr rfl 41 (.tmp 4) rfl g rfl A10.out Try.underlying41 (m := 16) (by kernel_rfl) (fe_length _) ?_)
          | ((with_reducible refine (bytes_fe cz _ hcz).mono ?_); rintro e w8 ⟨vb, rfl, hR, hb⟩; rw [czm] at hR; obtain ⟨gv, cv, ev, _, _, _⟩ := Kd.R_form hR (by rw [limbs_length]; omega); rw [limbs_length] at ev; subst ev; obtain ⟨hx0, _⟩ := Kd.R_celln 0 hR (0 : Int) (by omega) (by omega); have hx1 : w8.cell? ⟨gv, 0, none⟩ = some (.int .u8 v0) := hx0.trans (congrArg some (congrArg (Value.int .u8) HV0.out)); clear hx0; have V8 := Aside0.mk (V10.out.step hb); have A8 := Aside0.mk (blk_below A10.out hb); clear hb hR)
          | ((with_reducible refine gate_dst (N := 35) rfl ?_); refine ld_arr rfl 41 (.tmp 4) rfl g rfl A8.out Try.underlying41 (m := 16) (by kernel_rfl) (fe_length _) ?_)
          | (refine st_arr rfl 41 (.tmp 2) (.tmp 35) rfl (w.heap.size + 1) (xs := fe cz) rfl rfl (V8.out.blk 1 rfl) (m := 16) (by kernel_rfl) (fe_length _) (by rw [fe_length]; rfl) ?_; intro w' h1 h2 h4 h3; have H1 := Aside0.mk h1; have V9 := Aside0.mk (V8.out.row 1 rfl h1 h2 h3); clear h1 h2 h3 h4))
        exact bodyPost_ret (results_ct Try.results55 _ _ (w.heap.size + 1) 41 _ (0, 0) _ rfl H1.out Try.underlying41 rfl (by rw [arr_size, fe_length]; kernel_rfl)) rfl ⟨cz, hcz, by rw [EV.out, czm], rfl, V9.out.below⟩
      · have q1 : v0 % 2 = 1 := by omega
        have q2 : v0.tmod 2 = 1 := by rw [Int.tmod_eq_emod_of_nonneg (by omega)]; exact q1
        have EV := Aside0.mk (show rtV b = (PP - z) % PP by unfold rtV; rw [← ER.out, if_pos ho])
        have HN := Aside0.mk (fun W => (show Calls Try.prog 53 #[.agg #[.int .i64 0, .int .i64 0, .int .i64 0, .int .i64 0, .int .i64 0, .int .i64 0, .int .i64 0, .int .i64 0, .int .i64 0, .int .i64 0, .int .i64 0, .int .i64 0, .int .i64 0, .int .i64 0, .int .i64 0, .int .i64 0], .agg (arr .i64 (fe cz))] W _ from HU.out cz W hcz))
        clear hv0 ho hz8
        go_wp2_with (first
          | ((with_reducible refine gate_dst (N := 26) rfl ?_); refine ld_arr rfl 41 (.tmp 4) rfl g rfl A10.out Try.underlying41 (m := 16) (by kernel_rfl) (fe_length _) ?_)
          | ((with_reducible refine (bytes_fe cz _ hcz).mono ?_); rintro e w8 ⟨vb, rfl, hR, hb⟩; rw [czm] at hR; obtain ⟨gv, cv, ev, _, _, _⟩ := Kd.R_form hR (by rw [limbs_length]; omega); rw [limbs_length] at ev; subst ev; obtain ⟨hx0, _⟩ := Kd.R_celln 0 hR (0 : Int) (by omega) (by omega); have hx1 : w8.cell? ⟨gv, 0, none⟩ = some (.int .u8 v0) := hx0.trans (congrArg some (congrArg (Value.int .u8) HV0.out)); clear hx0; have V8 := Aside0.mk (V10.out.step hb); have A8 := Aside0.mk (blk_below A10.out hb); clear hb hR)
          | ((with_reducible refine gate_dst (N := 33) rfl ?_); refine ld_arr rfl 41 (.tmp 4) rfl g rfl A8.out Try.underlying41 (m := 16) (by kernel_rfl) (fe_length _) ?_)
          | ((refine (HN.out _).mono ?_); rintro e w9 ⟨d9, hd9, dm9, rfl, hb⟩; have V9 := Aside0.mk (V8.out.step hb); have A9 := Aside0.mk (blk_below A8.out hb); clear hb)
          | (refine st_arr rfl 41 (.tmp 4) (.tmp 34) rfl g (xs := fe d9) rfl rfl A9.out (m := 16) (by kernel_rfl) (fe_length _) (by rw [fe_length, fe_length]) ?_; intro w7 h1 h2 h4 h3; have A10 := Aside0.mk h1; have V10 := Aside0.mk (St.other V9.out h2 h3 HG.out); clear h1 h2 h3 h4)
          | ((with_reducible refine gate_dst (N := 35) rfl ?_); refine ld_arr rfl 41 (.tmp 4) rfl g rfl A10.out Try.underlying41 (m := 16) (by kernel_rfl) (fe_length _) ?_)
          | (refine st_arr rfl 41 (.tmp 2) (.tmp 35) rfl (w.heap.size + 1) (xs := fe d9) rfl rfl (V10.out.blk 1 rfl) (m := 16) (by kernel_rfl) (fe_length _) (by rw [fe_length]; rfl) ?_; intro w' h1 h2 h4 h3; have H1 := Aside0.mk h1; have V11 := Aside0.mk (V10.out.row 1 rfl h1 h2 h3); clear h1 h2 h3 h4))
        exact bodyPost_ret (results_ct Try.results55 _ _ (w.heap.size + 1) 41 _ (0, 0) _ rfl H1.out Try.underlying41 rfl (by rw [arr_size, fe_length]; kernel_rfl)) rfl ⟨d9, hd9, by rw [EV.out, neg_mod2 d9 cz dm9, czm], rfl, V11.out.below⟩
    · have hok : rtOk b = false := by rw [EO.out, decide_eq_false h1]
      rw [hok, if_neg (by decide)]
      rw [decide_eq_false h1] at HSz
      have f0 : fe 0 = [0, 0, 0, 0, 0, 0, 0, 0, 0, 0, 0, 0, 0, 0, 0, 0] := by decide
      clear hok hq hp hi h0 h1 E1 EO HU
      go_enter Try.func55, Try.ntmps55
      go_wp2_with (first
        | ((with_reducible refine gate_dst (N := 6) rfl ?_); refine ld_arr rfl 41 (.tmp 1) rfl w.heap.size rfl (S.out.blk 0 rfl) Try.underlying41 (m := 16) (by kernel_rfl) (fe_length _) ?_)
        | ((refine (HPw.out _).mono ?_); rintro e w1 ⟨c, hc, cm, rfl, hb⟩; have S1 := Aside0.mk (S.out.step hb); clear hb)
        | (refine st_arr rfl 41 (.tmp 4) (.tmp 7) rfl w1.heap.size (xs := fe c) rfl rfl (blk_new w1 (.cells (arr .i64 z16) 41)) (m := 16) (by kernel_rfl) (fe_length _) (by rw [fe_length]; rfl) ?_; intro w2 h1 h2 h4 h3; have A0 := Aside0.mk (blk_drew h1); have V0 := Aside0.mk (St.other (S1.out.alloc (.cells (arr .i64 z16) 41)) h2 h3 S1.out.size).drew; clear h1 h2 h3 h4))
      have HG := Aside0.mk S1.out.size
      generalize w1.heap.size = g at *
      clear S1 S
      go_wp2
      refine start_ (n := 6) (S := fun w' => St w [⟨41, .i64, fe a⟩, ⟨41, .i64, z16⟩] w' ∧ w'.heap[g]? = some (.cells (arr .i64 (fe c)) 41 (0, 0))) (ds := []) #[false, false, false, false, false, false] (by kernel_rfl) rfl rfl ⟨V0.out, A0.out⟩ (fun hHeld => ?_)
      refine take_ (i := 0) (N := some 8) (v := ?_) (a' := ?_) #[true, false, false, false, false, false] rfl rfl (by kernel_rfl) (fun _ _ _ h => h) (Or.inl ⟨by rfl, ?_⟩) hHeld ?_ ?_
      rotate_left
      · rintro w' ⟨s0, s1⟩
        refine (run_ld 41 (.tmp 4) (by rfl) g (by rfl) s1 Try.underlying41 (m := 16) (by kernel_rfl) (fe_length _)).trans ?_; with_reducible rfl
      rotate_left
      · simp only [Act.put, OpenRow.s1, OpenRow.s2, OpenRow.s3, i64_w, i32_w]; rfl
      refine take_ (i := 1) (N := some 9) (v := ?_) (a' := ?_) #[true, true, false, false, false, false] rfl rfl (by kernel_rfl) (fun _ _ _ h => h) (Or.inl ⟨by rfl, ?_⟩) hHeld ?_ ?_
      rotate_left
      · rintro w' ⟨s0, s1⟩
        refine (run_ld 41 (.tmp 4) (by rfl) g (by rfl) s1 Try.underlying41 (m := 16) (by kernel_rfl) (fe_length _)).trans ?_; with_reducible rfl
      rotate_left
      · simp only [Act.put, OpenRow.s1, OpenRow.s2, OpenRow.s3, i64_w, i32_w]; rfl
      refine take_ (i := 3) (N := some 11) (v := ?_) (a' := ?_) #[true, true, false, true, false, false] rfl rfl (by kernel_rfl) (fun _ _ _ h => h) (Or.inl ⟨by rfl, ?_⟩) hHeld ?_ ?_
      rotate_left
      · rintro w' ⟨s0, s1⟩
        refine (run_ld 41 (.tmp 1) (by rfl) w.heap.size (by rfl) (s0.blk 0 rfl) Try.underlying41 (m := 16) (by kernel_rfl) (fe_length _)).trans ?_; with_reducible rfl
      rotate_left
      · simp only [Act.put, OpenRow.s1, OpenRow.s2, OpenRow.s3, i64_w, i32_w]; rfl
      refine one_ (i := 2) (N := some 10) #[true, true, true, true, false, false] rfl rfl (by kernel_rfl) (by decide) (fun K hK => ?_)
      refine goes_ Try.func51 (by kernel_rfl) rfl #[.agg (arr .i64 (fe c)), .agg (arr .i64 (fe c))] (by rfl) rfl rfl (by simp only [List.map_toArray, List.map_cons, List.map_nil] <;> rfl) ?_
      with_reducible refine (HMx.out c _ hc cm).mono ?_
      rintro e w3 ⟨d, hd, dm, rfl, hb⟩
      refine ⟨_, rfl, ?_⟩
      have V1 := Aside0.mk (V0.out.step hb)
      have A1 := Aside0.mk (blk_below A0.out hb)
      clear hb
      refine hK.out _ _ ⟨V1.out, A1.out⟩ (fun hHeld => ?_)
      clear hK K
      refine norm_ (a' := ?_) ?_ ?_
      rotate_left
      · show Act.put _ (some 10) _ = _
        simp only [Act.put, OpenRow.s1, OpenRow.s2, OpenRow.s3, i64_w, i32_w]
        rfl
      refine one_ (i := 4) (N := some 12) #[true, true, true, true, true, false] rfl rfl (by kernel_rfl) (by decide) (fun K hK => ?_)
      refine goes_ Try.func78 (by kernel_rfl) rfl #[.agg (arr .i64 (fe d)), .agg (arr .i64 (fe a))] (by rfl) rfl rfl (by simp only [List.map_toArray, List.map_cons, List.map_nil] <;> rfl) ?_
      with_reducible refine (HSx.out d _ hd dm).mono ?_
      rintro e w3 ⟨rfl, hb⟩
      refine ⟨_, rfl, ?_⟩
      have V2 := Aside0.mk (V1.out.step hb)
      have A2 := Aside0.mk (blk_below A1.out hb)
      clear hb
      refine hK.out _ _ ⟨V2.out, A2.out⟩ (fun hHeld => ?_)
      clear hK K
      refine norm_ (a' := ?_) ?_ ?_
      rotate_left
      · show Act.put _ (some 12) _ = _
        simp only [Act.put, OpenRow.s1, OpenRow.s2, OpenRow.s3, i64_w, i32_w]
        rfl
      refine pure_ (i := 5) (N := some 13) (v := ?_) (a' := ?_) #[true, true, true, true, true, true] rfl rfl (by kernel_rfl) (fun _ _ _ h => h) (Or.inl ⟨by rfl, ?_⟩) ?_ ?_
      rotate_left
      · intro w'; go_simp; with_reducible rfl
      rotate_left
      · simp only [Act.put, OpenRow.s1, OpenRow.s2, OpenRow.s3, i64_w, i32_w]; rfl
      refine done_ (by kernel_rfl) ?_
      go_wp2_with (first
        | ((refine (HS2.out _).mono ?_); rintro e w4 ⟨rfl, hb⟩; have V3 := Aside0.mk (V2.out.step hb); have A3 := Aside0.mk (blk_below A2.out hb); clear hb)
        | ((refine (HPi.out _).mono ?_); rintro e w5 ⟨ci, hci, cim, rfl, hb⟩; have V4 := Aside0.mk (V3.out.step hb); have A4 := Aside0.mk (blk_below A3.out hb); clear hb)
        | (refine st_arr rfl 41 (.tmp 5) (.tmp 15) rfl w5.heap.size (xs := fe ci) rfl rfl (blk_new w5 (.cells (arr .i64 z16) 41)) (m := 16) (by kernel_rfl) (fe_length _) (by rw [fe_length]; rfl) ?_; intro w6 h1 h2 h4 h3; have G5 := Aside0.mk h1; have V5 := Aside0.mk (St.other (V4.out.alloc (.cells (arr .i64 z16) 41)) h2 h3 V4.out.size); have A5 := Aside0.mk ((h2 _ (ne_of_blk A4.out)).trans (blk_alloc A4.out _)); clear h1 h2 h3 h4)
        | ((with_reducible refine gate_dst (N := 16) rfl ?_); refine ld_arr rfl 41 (.tmp 4) rfl g rfl A5.out Try.underlying41 (m := 16) (by kernel_rfl) (fe_length _) ?_)
        | ((with_reducible refine gate_dst (N := 17) rfl ?_); refine ld_arr rfl 41 (.tmp 5) rfl w5.heap.size rfl G5.out Try.underlying41 (m := 16) (by kernel_rfl) (fe_length _) ?_)
        | ((with_reducible refine (HMi.out c ci _ hc cm hci cim).mono ?_); rintro e w7 ⟨cz, hcz, czm, rfl, hb⟩; have V6 := Aside0.mk (V5.out.step hb); have A6 := Aside0.mk (blk_below A5.out hb); clear hb)
        | (refine st_arr rfl 41 (.tmp 4) (.tmp 18) rfl g (xs := fe cz) rfl rfl A6.out (m := 16) (by kernel_rfl) (fe_length _) (by rw [fe_length, fe_length]) ?_; intro w7 h1 h2 h4 h3; have A7 := Aside0.mk h1; have V7 := Aside0.mk (St.other V6.out h2 h3 HG.out); clear h1 h2 h3 h4))
      have V8 := Aside0.mk V7.out.drew
      have A8 := Aside0.mk (blk_drew A7.out)
      refine start_ (n := 6) (S := fun w' => St w [⟨41, .i64, fe a⟩, ⟨41, .i64, z16⟩] w' ∧ w'.heap[g]? = some (.cells (arr .i64 (fe cz)) 41 (0, 0))) (ds := []) #[false, false, false, false, false, false] (by kernel_rfl) rfl rfl ⟨V8.out, A8.out⟩ (fun hHeld => ?_)
      refine take_ (i := 0) (N := some 19) (v := ?_) (a' := ?_) #[true, false, false, false, false, false] rfl rfl (by kernel_rfl) (fun _ _ _ h => h) (Or.inl ⟨by rfl, ?_⟩) hHeld ?_ ?_
      rotate_left
      · rintro w' ⟨s0, s1⟩
        refine (run_ld 41 (.tmp 4) (by rfl) g (by rfl) s1 Try.underlying41 (m := 16) (by kernel_rfl) (fe_length _)).trans ?_; with_reducible rfl
      rotate_left
      · simp only [Act.put, OpenRow.s1, OpenRow.s2, OpenRow.s3, i64_w, i32_w]; rfl
      refine take_ (i := 1) (N := some 20) (v := ?_) (a' := ?_) #[true, true, false, false, false, false] rfl rfl (by kernel_rfl) (fun _ _ _ h => h) (Or.inl ⟨by rfl, ?_⟩) hHeld ?_ ?_
      rotate_left
      · rintro w' ⟨s0, s1⟩
        refine (run_ld 41 (.tmp 4) (by rfl) g (by rfl) s1 Try.underlying41 (m := 16) (by kernel_rfl) (fe_length _)).trans ?_; with_reducible rfl
      rotate_left
      · simp only [Act.put, OpenRow.s1, OpenRow.s2, OpenRow.s3, i64_w, i32_w]; rfl
      refine take_ (i := 3) (N := some 22) (v := ?_) (a' := ?_) #[true, true, false, true, false, false] rfl rfl (by kernel_rfl) (fun _ _ _ h => h) (Or.inl ⟨by rfl, ?_⟩) hHeld ?_ ?_
      rotate_left
      · rintro w' ⟨s0, s1⟩
        refine (run_ld 41 (.tmp 1) (by rfl) w.heap.size (by rfl) (s0.blk 0 rfl) Try.underlying41 (m := 16) (by kernel_rfl) (fe_length _)).trans ?_; with_reducible rfl
      rotate_left
      · simp only [Act.put, OpenRow.s1, OpenRow.s2, OpenRow.s3, i64_w, i32_w]; rfl
      refine one_ (i := 2) (N := some 21) #[true, true, true, true, false, false] rfl rfl (by kernel_rfl) (by decide) (fun K hK => ?_)
      refine goes_ Try.func51 (by kernel_rfl) rfl #[.agg (arr .i64 (fe cz)), .agg (arr .i64 (fe cz))] (by rfl) rfl rfl (by simp only [List.map_toArray, List.map_cons, List.map_nil] <;> rfl) ?_
      with_reducible refine (HMz.out cz _ hcz czm).mono ?_
      rintro e w3 ⟨d5, hd5, d5m, rfl, hb⟩
      refine ⟨_, rfl, ?_⟩
      have V9 := Aside0.mk (V8.out.step hb)
      have A9 := Aside0.mk (blk_below A8.out hb)
      clear hb
      refine hK.out _ _ ⟨V9.out, A9.out⟩ (fun hHeld => ?_)
      clear hK K
      refine norm_ (a' := ?_) ?_ ?_
      rotate_left
      · show Act.put _ (some 21) _ = _
        simp only [Act.put, OpenRow.s1, OpenRow.s2, OpenRow.s3, i64_w, i32_w]
        rfl
      refine one_ (i := 4) (N := some 23) #[true, true, true, true, true, false] rfl rfl (by kernel_rfl) (by decide) (fun K hK => ?_)
      refine goes_ Try.func78 (by kernel_rfl) rfl #[.agg (arr .i64 (fe d5)), .agg (arr .i64 (fe a))] (by rfl) rfl rfl (by simp only [List.map_toArray, List.map_cons, List.map_nil] <;> rfl) ?_
      with_reducible refine (HSz.out d5 _ hd5 d5m).mono ?_
      rintro e w3 ⟨rfl, hb⟩
      refine ⟨_, rfl, ?_⟩
      have V10 := Aside0.mk (V9.out.step hb)
      have A10 := Aside0.mk (blk_below A9.out hb)
      clear hb
      refine hK.out _ _ ⟨V10.out, A10.out⟩ (fun hHeld => ?_)
      clear hK K
      refine norm_ (a' := ?_) ?_ ?_
      rotate_left
      · show Act.put _ (some 23) _ = _
        simp only [Act.put, OpenRow.s1, OpenRow.s2, OpenRow.s3, i64_w, i32_w]
        rfl
      refine pure_ (i := 5) (N := some 24) (v := ?_) (a' := ?_) #[true, true, true, true, true, true] rfl rfl (by kernel_rfl) (fun _ _ _ h => h) (Or.inl ⟨by rfl, ?_⟩) ?_ ?_
      rotate_left
      · intro w'; go_simp; with_reducible rfl
      rotate_left
      · simp only [Act.put, OpenRow.s1, OpenRow.s2, OpenRow.s3, i64_w, i32_w]; rfl
      refine done_ (by kernel_rfl) ?_
      go_wp2_with (first
        | (refine st_arr rfl 41 (.tmp 2) (.tmp 25) rfl (w.heap.size + 1) (xs := [0, 0, 0, 0, 0, 0, 0, 0, 0, 0, 0, 0, 0, 0, 0, 0]) rfl rfl (V10.out.blk 1 rfl) (m := 16) (by kernel_rfl) rfl rfl ?_; intro w' h1 h2 h4 h3; have H1 := Aside0.mk h1; have V11 := Aside0.mk (V10.out.row 1 rfl h1 h2 h3); clear h1 h2 h3 h4))
      exact bodyPost_ret (results_ct Try.results55 _ _ (w.heap.size + 1) 41 _ (0, 0) _ rfl H1.out Try.underlying41 rfl (by kernel_rfl)) rfl ⟨0, by decide, by decide, by rw [f0]; rfl, V11.out.below⟩
set_option maxHeartbeats 1000000 in
set_option maxRecDepth 100000 in
theorem spec_l05Zero.calls (x : Nat) (w : World) (hx : x < BB) :
    Calls Try.prog 56 #[.agg (arr .i64 (fe x))] w fun e w' => e = .returned (.bool (decide (x % PP = 0))) ∧ Below w.heap.size w w' := by
  have HS := Aside0.mk (fun W => (show Calls Try.prog 78 #[.agg (arr .i64 (fe x)), .agg #[.int .i64 0, .int .i64 0, .int .i64 0, .int .i64 0, .int .i64 0, .int .i64 0, .int .i64 0, .int .i64 0, .int .i64 0, .int .i64 0, .int .i64 0, .int .i64 0, .int .i64 0, .int .i64 0, .int .i64 0, .int .i64 0]] W (fun e w' => e = .returned (.bool (decide (x % PP = 0))) ∧ Below W.heap.size W w') from by
    have h := spec_l05Same.calls x 0 W hx (by decide)
    rw [Nat.zero_mod, show fe 0 = [0, 0, 0, 0, 0, 0, 0, 0, 0, 0, 0, 0, 0, 0, 0, 0] from by decide] at h
    exact h))
  clear hx
  generalize decide (x % PP = 0) = r at *
  have S := Aside0.mk ((St.start w).push rfl 41 .i64 (fe x))
  go_enter Try.func56, Try.ntmps56
  go_wp2_with (first
    | ((with_reducible refine gate_dst (N := 3) rfl ?_); refine ld_arr rfl 41 (.tmp 1) rfl w.heap.size rfl (S.out.blk 0 rfl) Try.underlying41 (m := 16) (by kernel_rfl) (fe_length _) ?_)
    | ((refine (HS.out _).mono ?_); rintro e w1 ⟨rfl, hb⟩; have S1 := Aside0.mk (S.out.step hb); clear hb))
  go_ret
  exact ⟨rfl, S1.out.below⟩
def zP : List Int := [0, 0, 0, 0, 0, 0, 0, 0, 0, 0, 0, 0, 0, 0, 0, 0, 0, 0, 0, 0, 0, 0, 0, 0, 0, 0, 0, 0, 0, 0, 0, 0, 0, 0, 0, 0, 0, 0, 0, 0, 0, 0, 0, 0, 0, 0, 0, 0, 0, 0, 0, 0, 0, 0, 0, 0, 0, 0, 0, 0, 0, 0, 0, 0]
def feP (x y z t : Nat) : List Int := fe x ++ (fe y ++ (fe z ++ fe t))
theorem feP_length (x y z t : Nat) : (feP x y z t).length = 64 := by simp [feP, fe_length]
theorem build_fe (x y z t : Nat) (W : World) :
    (Instr.build 43 #[(0, .agg (arr .i64 (fe x))), (1, .agg (arr .i64 (fe y))), (2, .agg (arr .i64 (fe z))), (3, .agg (arr .i64 (fe t)))]).run Try.prog W = .ok (.agg (arr .i64 (feP x y z t))) W := by
  have h : ∀ xs ys zs ts : List Int, xs.length = 16 → ys.length = 16 → zs.length = 16 → ts.length = 16 → (Instr.build 43 #[(0, .agg (arr .i64 xs)), (1, .agg (arr .i64 ys)), (2, .agg (arr .i64 zs)), (3, .agg (arr .i64 ts))]).run Try.prog W = .ok (.agg (arr .i64 (xs ++ (ys ++ (zs ++ ts))))) W := by
    intro xs ys zs ts hx hy hz ht
    match xs, ys, zs, ts, hx, hy, hz, ht with
    | [a0, a1, a2, a3, a4, a5, a6, a7, a8, a9, a10, a11, a12, a13, a14, a15], [b0, b1, b2, b3, b4, b5, b6, b7, b8, b9, b10, b11, b12, b13, b14, b15], [c0, c1, c2, c3, c4, c5, c6, c7, c8, c9, c10, c11, c12, c13, c14, c15], [d0, d1, d2, d3, d4, d5, d6, d7, d8, d9, d10, d11, d12, d13, d14, d15], _, _, _, _ =>
      simp only [arr, List.map_cons, List.map_nil, List.cons_append, List.nil_append]
      go_simp
  exact h _ _ _ _ (fe_length _) (fe_length _) (fe_length _) (fe_length _)
def PtPost (l : List Int) (e : Ending) : Prop := ∃ cx ct, cx < BB ∧ ct < BB ∧ (okP l = true → cx % PP = pXv l ∧ ct % PP = pXv l * pYv l % PP) ∧ e = .returned (.tuple #[.agg (arr .i64 (if okP l = true then feP cx (pYv l) 1 ct else zP)), .bool (okP l)])
theorem PtPost_no {l : List Int} (h : okP l = false) : PtPost l (.returned (.tuple #[.agg (arr .i64 zP), .bool false])) :=
  ⟨0, 0, by decide, by decide, fun h2 => by rw [h] at h2; exact absurd h2 (by decide), by rw [h, if_neg (by decide)]⟩
theorem PtPost_yes {l : List Int} (h : okP l = true) (x y cx ct : Nat) (hx : pXv l = x) (hy : pYv l = y) (h1 : cx < BB) (h2 : ct < BB) (h3 : cx % PP = x) (h4 : ct % PP = x * y % PP) : PtPost l (.returned (.tuple #[.agg (arr .i64 (feP cx y 1 ct)), .bool true])) :=
  ⟨cx, ct, h1, h2, fun _ => ⟨by rw [hx]; exact h3, by rw [hx, hy]; exact h4⟩, by rw [h, if_pos rfl, hy]⟩
set_option maxHeartbeats 4000000 in
set_option maxRecDepth 100000 in
theorem spec_l05Point1.calls (A0 : Option Addr) (c0 : Nat) (l : List Int) (w : World) (hr0 : Kd.C (Kd.int .u8) w A0 l.length l) (hc0 : l.length ≤ c0) (ho : okB l = true) :
    Calls Try.prog 18 #[.slice A0 l.length c0] w fun e w' => PtPost l e ∧ Below w.heap.size w w' := by
  have S := Aside0.mk ((St.start w).push rfl 43 .i64 zP)
  by_cases hl : l.length = 32
  · have hPB : PP < BB := by decide
    obtain ⟨Wa, hWa⟩ : ∃ Wa, Wa = w.alloc (.cells (arr .i64 zP) 43) := ⟨_, rfl⟩
    have HRa := Aside0.mk (Kd.C_below hr0 (below_alloc (Below.refl w.heap.size w) (.cells (arr .i64 zP) 43)))
    have HWs := Aside0.mk (show Wa.heap.size = w.heap.size + 1 from by rw [hWa, World.size_alloc])
    rw [← hWa] at HRa S
    have HWa := Aside0.mk hWa
    clear hWa
    have infoE : (Try.prog.info? 5).map (fun i => (i.zero, i.size, i.bytes)) = some (some (.int .u8 0), 1, 1) := by kernel_rfl
    have INFO := Aside0.mk infoE
    clear infoE
    have Ny := Aside0.mk (show l = [] ++ l from rfl)
    have hll : (l.length : Int) = 32 := by omega
    have HLW := Aside0.mk hl
    have OKL := Aside0.mk (lowB_ok (okB_ok l ho))
    have hbb := okB_ok l ho (l.getD 31 0) (by rw [List.getD_eq_getElem?_getD, List.getElem?_eq_getElem (by omega)]; exact List.getElem_mem _)
    have HIE := Aside0.mk (fun g c W (hW : Kd.C (Kd.int .u8) W (some ⟨g, 0, none⟩) (lowB l).length (lowB l)) (hc : (lowB l).length ≤ c) => spec_l05Is.calls (some ⟨g, 0, none⟩) c (lowB l) (isEl (lowB l)) W hW hc (by
      unfold spec_l05Is.f
      rw [if_pos (by rw [okB, List.all_eq_true]; intro x hx; have := OKL.out x hx; rw [decide_eq_true this.1, decide_eq_true (show x < 256 from this.2)]; rfl)]))
    have HEO := Aside0.mk (fun g c W (hW : Kd.C (Kd.int .u8) W (some ⟨g, 0, none⟩) (lowB l).length (lowB l)) => spec_l05Of.calls (some ⟨g, 0, none⟩) c (lowB l) W hW (by rw [lowB_length]; omega) OKL.out)
    rw [ofS_fe _ OKL.out (by rw [lowB_length]; omega)] at HEO
    have HLS := Aside0.mk (show l.set 31 (l.getD 31 0 % 128) = lowB l from rfl)
    have sgb : decide (128 ≤ l.getD 31 0) = sgB l := rfl
    rw [lowB_length, hl] at HIE HEO
    obtain ⟨b, hb_⟩ : ∃ b, b = l.getD 31 0 := ⟨_, rfl⟩
    obtain ⟨lo, hlo⟩ : ∃ lo, lo = b % 128 := ⟨_, rfl⟩
    obtain ⟨sv, hsv⟩ : ∃ sv, sv = b / 128 := ⟨_, rfl⟩
    have HBD := Aside0.mk hb_
    rw [← hb_] at sgb hbb
    rw [← hb_, ← hlo] at HLS
    have b0 := hbb.1
    have b1 : b < 256 := hbb.2
    have q1 : b % 128 = lo := hlo.symm
    have q2 : b.tmod 128 = lo := by rw [Int.tmod_eq_emod_of_nonneg b0]; exact q1
    have q3 : b / 128 = sv := hsv.symm
    have q4 : b.tdiv 128 = sv := by rw [Int.tdiv_eq_ediv_of_nonneg b0]; exact q3
    have sv0 : 0 ≤ sv := by omega
    have sv1 : sv < 2 := by omega
    have HSV : Aside0 ((sv == 1) = sgB l) := ⟨by
      rw [← sgb]
      by_cases h : 128 ≤ b
      · rw [decide_eq_true h, show sv = 1 by omega]; rfl
      · rw [decide_eq_false h, show sv = 0 by omega]; rfl⟩
    have lo0 : 0 ≤ lo := by omega
    have lo1 : lo < 128 := by omega
    clear hb_ hlo hbb hsv sgb
    by_cases he : isEl (lowB l) = true
    · have hy0 : bval (lowB l) < PP := by
        have := he
        unfold isEl at this
        rw [Bool.and_eq_true, decide_eq_true_iff] at this
        exact of_decide_eq_true this.2
      have hYB : pYv l < BB := Nat.lt_trans hy0 hPB
      have hPY : bval (lowB l) = pYv l := rfl
      rw [he] at HIE
      rw [hPY] at HEO
      have HY0 := Aside0.mk (show pYv l < PP from hy0)
      have HYB := Aside0.mk hYB
      have HYY := Aside0.mk (fun W => spec_l05Mul.calls (pYv l) (pYv l) W hYB hYB)
      have H1 := Aside0.mk (fun W => (show Calls Try.prog 52 #[.int .i64 1] W _ from spec_l05Small.calls 1 W (by decide)))
      have EQ := Aside0.mk (show pYv l * pYv l % PP = pQ (pYv l) from rfl)
      have F1 := Aside0.mk (fun h => okP_rt (l := l) h)
      have F2 := Aside0.mk (fun h h2 => okP_zero (l := l) h h2)
      have F3 := Aside0.mk (fun h h2 => okP_true (l := l) he h h2)
      have F5 := Aside0.mk (fun h => pXv_sg (l := l) h)
      have F6 := Aside0.mk (fun h => pXv_no (l := l) h)
      have E1 := Aside0.mk (show pN (pYv l) = (pQ (pYv l) + PP - 1) % PP from rfl)
      have E2 := Aside0.mk (show pM (pYv l) = cuN * pQ (pYv l) % PP from rfl)
      have E3 := Aside0.mk (show pD (pYv l) = (pM (pYv l) + 1) % PP from rfl)
      have E4 := Aside0.mk (show pI (pYv l) = pD (pYv l) ^ (PP - 2) % PP from rfl)
      have E5 := Aside0.mk (show pXX (pYv l) = pN (pYv l) * pI (pYv l) % PP from rfl)
      have E6' := Aside0.mk (show rtX (pYv l) = if rtOk (pXX (pYv l)) = true then rtV (pXX (pYv l)) else 0 from rfl)
      have HQL := Aside0.mk (pQ_lt (pYv l))
      clear he hy0 hPY hYB hc0 hr0 ho hl
      generalize rtX (pYv l) = x0 at *
      generalize pXX (pYv l) = xx at *
      generalize pI (pYv l) = ii at *
      generalize pN (pYv l) = nn at *
      generalize pD (pYv l) = dd at *
      generalize pM (pYv l) = m at *
      generalize pQ (pYv l) = qq at *
      generalize hyy : pYv l = y at *
      have HPY := Aside0.mk hyy
      clear hyy
      have K42 := Aside0.mk (fun W => spec_l05D.calls W)
      have K46 := Aside0.mk (fun c (hc : c < BB) (hm : c % PP = m) W => (show Calls Try.prog 21 #[.agg (arr .i64 (fe c)), .agg (arr .i64 (fe 1))] W fun e w' => ∃ d, d < BB ∧ d % PP = dd ∧ e = .returned (.agg (arr .i64 (fe d))) ∧ Below W.heap.size W w' from by
        have h := spec_l05Add.calls c 1 W hc (by decide)
        rw [Nat.add_mod, hm, show 1 % PP = 1 from by decide, ← E3.out] at h
        exact h))
      have K47 := Aside0.mk (fun c (hc : c < BB) (hm : c % PP = dd) W => (show Calls Try.prog 54 #[.agg (arr .i64 (fe c))] W fun e w' => ∃ d, d < BB ∧ d % PP = ii ∧ e = .returned (.agg (arr .i64 (fe d))) ∧ Below W.heap.size W w' from by
        have h := spec_l05Inverse.calls c W hc
        rw [Nat.pow_mod, hm, ← E4.out] at h
        exact h))
      have K48 := Aside0.mk (fun c (hc : c < BB) (hm : c % PP = nn) d (hd : d < BB) (hn : d % PP = ii) W => (show Calls Try.prog 51 #[.agg (arr .i64 (fe c)), .agg (arr .i64 (fe d))] W fun e w' => ∃ d, d < BB ∧ d % PP = xx ∧ e = .returned (.agg (arr .i64 (fe d))) ∧ Below W.heap.size W w' from by
        have h := spec_l05Mul.calls c d W hc hd
        rw [Nat.mul_mod, hm, hn, ← E5.out] at h
        exact h))
      have KR := Aside0.mk (fun c (hc : c < BB) (hm : c % PP = xx) W => (show Calls Try.prog 55 #[.agg (arr .i64 (fe c))] W fun e w' => ∃ d, d < BB ∧ d % PP = x0 ∧ e = .returned (.tuple #[.agg (arr .i64 (fe d)), .bool (rtOk xx)]) ∧ Below W.heap.size W w' from by
        have h := spec_l05Root.calls c W hc
        rw [hm, ← E6'.out] at h
        exact h))
      have KZ := Aside0.mk (fun c (hc : c < BB) (hm : c % PP = x0) W => (show Calls Try.prog 56 #[.agg (arr .i64 (fe c))] W fun e w' => e = .returned (.bool (decide (x0 = 0))) ∧ Below W.heap.size W w' from by
        have h := spec_l05Zero.calls c W hc
        rw [hm] at h
        exact h))
      have KU := Aside0.mk (fun c (hc : c < BB) (hm : c % PP = x0) W => (show Calls Try.prog 53 #[.agg #[.int .i64 0, .int .i64 0, .int .i64 0, .int .i64 0, .int .i64 0, .int .i64 0, .int .i64 0, .int .i64 0, .int .i64 0, .int .i64 0, .int .i64 0, .int .i64 0, .int .i64 0, .int .i64 0, .int .i64 0, .int .i64 0], .agg (arr .i64 (fe c))] W fun e w' => ∃ d, d < BB ∧ d % PP = (PP - x0) % PP ∧ e = .returned (.agg (arr .i64 (fe d))) ∧ Below W.heap.size W w' from by
        have h := spec_l05Sub.calls 0 c W (by decide) hc
        rw [show fe 0 = [0, 0, 0, 0, 0, 0, 0, 0, 0, 0, 0, 0, 0, 0, 0, 0] from by decide] at h
        refine h.mono ?_
        rintro e w' ⟨d, h1, h2, h3, h4⟩
        exact ⟨d, h1, by rw [FldRoot.neg_mod2 d c h2, hm], h3, h4⟩))
      have KT := Aside0.mk (fun xv c (hc : c < BB) (hm : c % PP = xv) W => (show Calls Try.prog 51 #[.agg (arr .i64 (fe c)), .agg (arr .i64 (fe y))] W fun e w' => ∃ d, d < BB ∧ d % PP = xv * y % PP ∧ e = .returned (.agg (arr .i64 (fe d))) ∧ Below W.heap.size W w' from by
        have h := spec_l05Mul.calls c y W hc HYB.out
        rw [Nat.mul_mod, hm, Nat.mod_eq_of_lt HY0.out] at h
        exact h))
      have KN := Aside0.mk (fun q (hq : q < BB) (hm : q % PP = qq) W => (show Calls Try.prog 53 #[.agg (arr .i64 (fe q)), .agg (arr .i64 (fe 1))] W fun e w' => ∃ d, d < BB ∧ d % PP = nn ∧ e = .returned (.agg (arr .i64 (fe d))) ∧ Below W.heap.size W w' from by
        have h := spec_l05Sub.calls q 1 W hq (by decide)
        refine h.mono ?_
        rintro e w' ⟨d, h1, h2, h3, h4⟩
        refine ⟨d, h1, ?_, h3, h4⟩
        have g1 := Nat.mod_lt d FldP.PP_pos
        rw [Nat.add_mod, hm, show 1 % PP = 1 from by decide] at h2
        rw [E1.out]
        have g2 := HQL.out
        clear h hm E1 hq E2 E3 E4 E5 E6' h3 h4 h1
        generalize d % PP = r at *
        have g3 : 1 < PP := by decide
        generalize PP = p at *
        rcases Nat.lt_or_ge (r + 1) p with g | g
        · rw [Nat.mod_eq_of_lt g] at h2
          rw [show qq + p - 1 = r + p by omega, Nat.add_mod_right, Nat.mod_eq_of_lt g1]
        · rw [show r + 1 = p by omega, Nat.mod_self] at h2
          rw [show qq + p - 1 = r by omega, Nat.mod_eq_of_lt g1]))
      have KM := Aside0.mk (fun q (hq : q < BB) (hqm : q % PP = qq) c (hc : c < BB) (hm : c % PP = cuN) W => (show Calls Try.prog 51 #[.agg (arr .i64 (fe c)), .agg (arr .i64 (fe q))] W fun e w' => ∃ d, d < BB ∧ d % PP = m ∧ e = .returned (.agg (arr .i64 (fe d))) ∧ Below W.heap.size W w' from by
        have h := spec_l05Mul.calls c q W hc hq
        rw [Nat.mul_mod, hm, hqm, ← E2.out] at h
        exact h))
      have HXL := Aside0.mk hPB
      generalize rtOk xx = ok at *
      clear E1 E2 E3 E4 E5 E6'
      generalize sgB l = sg at *
      clear hPB
      go_enter Try.func18, Try.ntmps18
      go_wp2_with (first
        | ((with_reducible refine gate_dst (N := 16) rfl ?_); refine Kd.R_lit (Kd.int .u8) _ 5 ?hg (N := 16) ?hd (xs := []) (inner := []) (ok := fun _ => True) (okp := fun _ => True) ?hr ?hp (fun _ hk => hk) trivial (Below.refl _ _) (Nat.le_refl _) (by simp) ?_; (case hd => rfl); (case hg => rfl); (case hr => first | (go_simp; done) | (go_simp; rfl)); (case hp => exact Reps.none _ _); intro v126 w5 ho6 hb hg_ hnew_; clear hg_ hnew_; have HO5 : Aside0 ((Kd.int .u8).R 5 w5 Wa.heap.size (fun _ => True) v126 []) := ⟨(by rw [HWa.out]; exact ho6)⟩; have HB5 : Aside0 (Below Wa.heap.size Wa w5) := ⟨(by rw [HWa.out]; exact hb)⟩; clear hb ho6)
        | ((with_reducible refine gate_builtin (b := .append) (xs := #[.tmp 16, .tmp 17]) rfl ?_); at_builtin; refine Kd.R_append_rows (Kd.int .u8) (w0 := Wa) Wa.heap.size rfl (.tmp 16) (.tmp 17) 22 5 (.int .u8 0) 1 rfl Try.underlying22 INFO.out rfl (by decide) (by decide) v126 [] l _ _ _ (fun _ => True) (fun _ => False) rfl rfl ?aO ?aR (fun _ _ h => h) (fun _ h => h.elim) ?aF ?aB ?aS ?aL ?_; (case aR => exact (Kd.C_below HRa.out HB5.out)); (case aB => exact HB5.out); (case aF => exact (fun _ _ => trivial)); (case aO => exact HO5.out); (case aS => exact (below_size HB5.out)); (case aL => have := HLW.out; simp only [List.length_nil, Nat.zero_add]; omega); intro v129 w1 hR hb hg hat; rw [← Ny.out] at hR; obtain ⟨go, co, eo, gb, gl, _, HGc⟩ := Kd.R_form hR (by omega); rw [HLW.out] at eo; subst eo; have GB := Aside0.mk gb; rw [HWa.out, World.size_alloc] at GB; have S1 := Aside0.mk (S.out.stepB (by have := HWs.out; simp only [List.nil_append, List.length_singleton, ← this]; exact hb)); have hx0 : w1.cell? ⟨go, 31, none⟩ = some (.int .u8 b) := (by rw [HBD.out]; exact (Kd.R_celln 0 hR (31 : Int) (by omega) (by omega)).1); have hf0 : w1.frozen? ⟨go, 31, none⟩ = false := (Kd.R_celln 0 hR (31 : Int) (by omega) (by omega)).2; have HP31 : Aside0 ((Kd.int .u8).R 5 (w1.setCell ⟨go, 31, none⟩ (.int .u8 lo)) Wa.heap.size (fun _ => True) (.slice (some ⟨go, 0, none⟩) 32 co) (lowB l)) := ⟨(by rw [← HLS.out]; exact (Kd.R_putg hR (31 : Int) lo).1)⟩; have HC3 := Aside0.mk (Kd.R_reads' HP31.out).2.2; have HCO := Aside0.mk (Kd.R_reads' HP31.out).2.1; rw [lowB_length, HLW.out] at HC3; clear hb hR gb gl HGc hg hat)
        | ((with_reducible refine (HIE.out _ _ _ HC3.out HCO.out).mono ?_); rintro e w2 ⟨rfl, hb⟩; have S2 := Aside0.mk ((St_far S1.out go 31 _ GB.out).step hb); have HC4 := Aside0.mk (Kd.C_below HC3.out hb); clear hb)
        | ((with_reducible refine (HEO.out _ _ _ HC4.out).mono ?_); rintro e w3 ⟨rfl, hb⟩; have S3 := Aside0.mk (S2.out.step hb); clear hb)
        | (refine st_arr rfl 41 (.tmp 6) (.tmp 34) rfl w3.heap.size (xs := fe y) rfl rfl (blk_new w3 (.cells (arr .i64 z16) 41)) (m := 16) (by kernel_rfl) (fe_length _) (by rw [fe_length]; rfl) ?_; intro w4 h1 h2 h4 h3; have A4 := Aside0.mk h1; have S4 := Aside0.mk (St.other (S3.out.alloc (.cells (arr .i64 z16) 41)) h2 h3 S3.out.size); clear h1 h2 h3 h4)
        | ((with_reducible refine gate_dst (N := 35) rfl ?_); refine ld_arr rfl 41 (.tmp 6) rfl w3.heap.size rfl A4.out Try.underlying41 (m := 16) (by kernel_rfl) (fe_length _) ?_)
        | ((with_reducible refine gate_dst (N := 36) rfl ?_); refine ld_arr rfl 41 (.tmp 6) rfl w3.heap.size rfl A4.out Try.underlying41 (m := 16) (by kernel_rfl) (fe_length _) ?_)
        | ((with_reducible refine (HYY.out _).mono ?_); rintro e w5 ⟨q, hql, hqm, rfl, hb⟩; have S5 := Aside0.mk (S4.out.step hb); have A5 := Aside0.mk (blk_below A4.out hb); clear hb)
        | (refine st_arr rfl 41 (.tmp 7) (.tmp 37) rfl w5.heap.size (xs := fe q) rfl rfl (blk_new w5 (.cells (arr .i64 z16) 41)) (m := 16) (by kernel_rfl) (fe_length _) (by rw [fe_length]; rfl) ?_; intro w6 h1 h2 h4 h3; have B6 := Aside0.mk h1; have S6 := Aside0.mk (St.other (S5.out.alloc (.cells (arr .i64 z16) 41)) h2 h3 S5.out.size); have A6 := Aside0.mk ((h2 _ (ne_of_blk A5.out)).trans (blk_alloc A5.out _)); clear h1 h2 h3 h4)
        | ((with_reducible refine (H1.out _).mono ?_); rintro e w7 ⟨rfl, hb⟩; have S7 := Aside0.mk (S6.out.step hb); have A7 := Aside0.mk (blk_below A6.out hb); have B7 := Aside0.mk (blk_below B6.out hb); clear hb)
        | (refine st_arr rfl 41 (.tmp 8) (.tmp 38) rfl w7.heap.size (xs := fe 1) rfl rfl (blk_new w7 (.cells (arr .i64 z16) 41)) (m := 16) (by kernel_rfl) (fe_length _) (by rw [fe_length]; rfl) ?_; intro w8 h1 h2 h4 h3; have C8 := Aside0.mk h1; have S8 := Aside0.mk (St.other (S7.out.alloc (.cells (arr .i64 z16) 41)) h2 h3 S7.out.size); have A8 := Aside0.mk ((h2 _ (ne_of_blk A7.out)).trans (blk_alloc A7.out _)); have B8 := Aside0.mk ((h2 _ (ne_of_blk B7.out)).trans (blk_alloc B7.out _)); clear h1 h2 h3 h4))
      rw [EQ.out] at hqm
      have K41 := Aside0.mk (KN.out q hql hqm)
      have K44 := Aside0.mk (KM.out q hql hqm)
      have E6 := Aside0.mk S3.out.size
      generalize w3.heap.size = g6 at *
      generalize w5.heap.size = g7 at *
      generalize w7.heap.size = g8 at *
      have U := Aside0.mk S8.out.drew
      have A := Aside0.mk (blk_drew A8.out)
      have B := Aside0.mk (blk_drew B8.out)
      have C := Aside0.mk (blk_drew C8.out)
      clear S1 S2 S3 S4 S5 S6 S7 S8 A4 A5 A6 A7 A8 B6 B7 B8 C8 HIE HEO HYY HP31 HC3 HC4 HCO GB hx0 hf0 HO5 HB5 KN KM H1
      refine start_ (n := 12) (S := fun w' => St w [⟨43, .i64, zP⟩] w' ∧ w'.heap[g6]? = some (.cells (arr .i64 (fe y)) 41 (0, 0)) ∧ w'.heap[g7]? = some (.cells (arr .i64 (fe q)) 41 (0, 0)) ∧ w'.heap[g8]? = some (.cells (arr .i64 (fe 1)) 41 (0, 0))) (ds := []) #[false, false, false, false, false, false, false, false, false, false, false, false] (by kernel_rfl) rfl rfl ⟨U.out, A.out, B.out, C.out⟩ (fun hHeld => ?_)
      refine take_ (i := 0) (N := some 39) (v := ?_) (a' := ?_) #[true, false, false, false, false, false, false, false, false, false, false, false] rfl rfl (by kernel_rfl) (fun _ _ _ h => h) (Or.inl ⟨by rfl, ?_⟩) hHeld ?_ ?_
      rotate_left
      · rintro w' ⟨s0, s1, s2, s3⟩
        refine (run_ld 41 (.tmp 7) (by rfl) g7 (by rfl) s2 Try.underlying41 (m := 16) (by kernel_rfl) (fe_length _)).trans ?_; with_reducible rfl
      rotate_left
      · simp only [Act.put, OpenRow.s1, OpenRow.s2, OpenRow.s3, i64_w, i32_w]; rfl
      refine take_ (i := 1) (N := some 40) (v := ?_) (a' := ?_) #[true, true, false, false, false, false, false, false, false, false, false, false] rfl rfl (by kernel_rfl) (fun _ _ _ h => h) (Or.inl ⟨by rfl, ?_⟩) hHeld ?_ ?_
      rotate_left
      · rintro w' ⟨s0, s1, s2, s3⟩
        refine (run_ld 41 (.tmp 8) (by rfl) g8 (by rfl) s3 Try.underlying41 (m := 16) (by kernel_rfl) (fe_length _)).trans ?_; with_reducible rfl
      rotate_left
      · simp only [Act.put, OpenRow.s1, OpenRow.s2, OpenRow.s3, i64_w, i32_w]; rfl
      refine take_ (i := 4) (N := some 43) (v := ?_) (a' := ?_) #[true, true, false, false, true, false, false, false, false, false, false, false] rfl rfl (by kernel_rfl) (fun _ _ _ h => h) (Or.inl ⟨by rfl, ?_⟩) hHeld ?_ ?_
      rotate_left
      · rintro w' ⟨s0, s1, s2, s3⟩
        refine (run_ld 41 (.tmp 7) (by rfl) g7 (by rfl) s2 Try.underlying41 (m := 16) (by kernel_rfl) (fe_length _)).trans ?_; with_reducible rfl
      rotate_left
      · simp only [Act.put, OpenRow.s1, OpenRow.s2, OpenRow.s3, i64_w, i32_w]; rfl
      refine take_ (i := 6) (N := some 45) (v := ?_) (a' := ?_) #[true, true, false, false, true, false, true, false, false, false, false, false] rfl rfl (by kernel_rfl) (fun _ _ _ h => h) (Or.inl ⟨by rfl, ?_⟩) hHeld ?_ ?_
      rotate_left
      · rintro w' ⟨s0, s1, s2, s3⟩
        refine (run_ld 41 (.tmp 8) (by rfl) g8 (by rfl) s3 Try.underlying41 (m := 16) (by kernel_rfl) (fe_length _)).trans ?_; with_reducible rfl
      rotate_left
      · simp only [Act.put, OpenRow.s1, OpenRow.s2, OpenRow.s3, i64_w, i32_w]; rfl
      refine join_ (σ := Nat × Nat × Nat × Nat × Nat × Nat × Nat) 1 #[true, true, true, true, true, true, true, true, true, true, true, false] (fun s_ => [(41, .agg (arr .i64 (fe (s_.1)))), (42, .agg (arr .i64 (fe (s_.2.1)))), (44, .agg (arr .i64 (fe (s_.2.2.1)))), (46, .agg (arr .i64 (fe (s_.2.2.2.1)))), (47, .agg (arr .i64 (fe (s_.2.2.2.2.1)))), (48, .agg (arr .i64 (fe (s_.2.2.2.2.2.1)))), (9, .pointer (some ⟨s_.2.2.2.2.2.2, 0, none⟩))]) (fun s_ w' => (St w [⟨43, .i64, zP⟩] w') ∧ (w'.heap[g6]? = some (.cells (arr .i64 (fe y)) 41 (0, 0))) ∧ (w'.heap[g7]? = some (.cells (arr .i64 (fe q)) 41 (0, 0))) ∧ (w'.heap[g8]? = some (.cells (arr .i64 (fe 1)) 41 (0, 0))) ∧ w'.heap[s_.2.2.2.2.2.2]? = some (.cells (arr .i64 z16) 41 (0, 0)) ∧ w.heap.size + 1 ≤ s_.2.2.2.2.2.2 ∧ g6 ≠ s_.2.2.2.2.2.2 ∧ g7 ≠ s_.2.2.2.2.2.2 ∧ g8 ≠ s_.2.2.2.2.2.2 ∧ ((s_.2.2.2.2.2.1) < BB) ∧ ((s_.2.2.2.2.2.1) % PP = xx)) ?_ ?_
      rotate_left
      · intro hCont
        refine two_ (i := 2) (j := 10) (Ni := some 41) (Nj := some 9) #[true, true, true, false, true, false, true, false, false, false, false, false] #[true, true, false, false, true, false, true, false, false, false, true, false] rfl rfl rfl rfl (by kernel_rfl) (by decide) (by decide) (fun K hK => ?_) (fun K hK => ?_)
        · skip
          refine goes_ Try.func53 (by kernel_rfl) rfl #[.agg (arr .i64 (fe q)), .agg (arr .i64 (fe 1))] (by rfl) rfl rfl (by simp only [List.map_toArray, List.map_cons, List.map_nil] <;> rfl) ?_
          with_reducible refine (K41.out _).mono ?_
          rintro e w3 ⟨c41, hl41, hm41, rfl, hb⟩
          refine ⟨_, rfl, ?_⟩
          have U_2 := Aside0.mk (U.out.step hb)
          have A_2 := Aside0.mk (blk_below A.out hb)
          have B_2 := Aside0.mk (blk_below B.out hb)
          have C_2 := Aside0.mk (blk_below C.out hb)
          clear hb
          refine hK.out _ _ ⟨U_2.out, A_2.out, B_2.out, C_2.out⟩ (fun hHeld => ?_)
          clear hK K
          refine norm_ (a' := ?_) ?_ ?_
          rotate_left
          · show Act.put _ (some 41) _ = _
            simp only [Act.put, OpenRow.s1, OpenRow.s2, OpenRow.s3, i64_w, i32_w]
            rfl
          refine two_ (i := 3) (j := 10) (Ni := some 42) (Nj := some 9) #[true, true, true, true, true, false, true, false, false, false, false, false] #[true, true, true, false, true, false, true, false, false, false, true, false] rfl rfl rfl rfl (by kernel_rfl) (by decide) (by decide) (fun K hK => ?_) (fun K hK => ?_)
          · skip
            refine goes_ Try.func22 (by kernel_rfl) rfl #[] (by rfl) rfl rfl (by simp only [List.map_toArray, List.map_cons, List.map_nil] <;> rfl) ?_
            with_reducible refine (K42.out _).mono ?_
            rintro e w3 ⟨c42, hl42, hm42, rfl, hb⟩
            refine ⟨_, rfl, ?_⟩
            have U_2_3 := Aside0.mk (U_2.out.step hb)
            have A_2_3 := Aside0.mk (blk_below A_2.out hb)
            have B_2_3 := Aside0.mk (blk_below B_2.out hb)
            have C_2_3 := Aside0.mk (blk_below C_2.out hb)
            clear hb
            refine hK.out _ _ ⟨U_2_3.out, A_2_3.out, B_2_3.out, C_2_3.out⟩ (fun hHeld => ?_)
            clear hK K
            refine norm_ (a' := ?_) ?_ ?_
            rotate_left
            · show Act.put _ (some 42) _ = _
              simp only [Act.put, OpenRow.s1, OpenRow.s2, OpenRow.s3, i64_w, i32_w]
              rfl
            refine two_ (i := 5) (j := 10) (Ni := some 44) (Nj := some 9) #[true, true, true, true, true, true, true, false, false, false, false, false] #[true, true, true, true, true, false, true, false, false, false, true, false] rfl rfl rfl rfl (by kernel_rfl) (by decide) (by decide) (fun K hK => ?_) (fun K hK => ?_)
            · skip
              refine goes_ Try.func51 (by kernel_rfl) rfl #[.agg (arr .i64 (fe c42)), .agg (arr .i64 (fe q))] (by rfl) rfl rfl (by simp only [List.map_toArray, List.map_cons, List.map_nil] <;> rfl) ?_
              with_reducible refine (K44.out c42 hl42 hm42 _).mono ?_
              rintro e w3 ⟨c44, hl44, hm44, rfl, hb⟩
              refine ⟨_, rfl, ?_⟩
              have U_2_3_5 := Aside0.mk (U_2_3.out.step hb)
              have A_2_3_5 := Aside0.mk (blk_below A_2_3.out hb)
              have B_2_3_5 := Aside0.mk (blk_below B_2_3.out hb)
              have C_2_3_5 := Aside0.mk (blk_below C_2_3.out hb)
              clear hb
              refine hK.out _ _ ⟨U_2_3_5.out, A_2_3_5.out, B_2_3_5.out, C_2_3_5.out⟩ (fun hHeld => ?_)
              clear hK K
              refine norm_ (a' := ?_) ?_ ?_
              rotate_left
              · show Act.put _ (some 44) _ = _
                simp only [Act.put, OpenRow.s1, OpenRow.s2, OpenRow.s3, i64_w, i32_w]
                rfl
              refine two_ (i := 7) (j := 10) (Ni := some 46) (Nj := some 9) #[true, true, true, true, true, true, true, true, false, false, false, false] #[true, true, true, true, true, true, true, false, false, false, true, false] rfl rfl rfl rfl (by kernel_rfl) (by decide) (by decide) (fun K hK => ?_) (fun K hK => ?_)
              · skip
                refine goes_ Try.func21 (by kernel_rfl) rfl #[.agg (arr .i64 (fe c44)), .agg (arr .i64 (fe 1))] (by rfl) rfl rfl (by simp only [List.map_toArray, List.map_cons, List.map_nil] <;> rfl) ?_
                with_reducible refine (K46.out c44 hl44 hm44 _).mono ?_
                rintro e w3 ⟨c46, hl46, hm46, rfl, hb⟩
                refine ⟨_, rfl, ?_⟩
                have U_2_3_5_7 := Aside0.mk (U_2_3_5.out.step hb)
                have A_2_3_5_7 := Aside0.mk (blk_below A_2_3_5.out hb)
                have B_2_3_5_7 := Aside0.mk (blk_below B_2_3_5.out hb)
                have C_2_3_5_7 := Aside0.mk (blk_below C_2_3_5.out hb)
                clear hb
                refine hK.out _ _ ⟨U_2_3_5_7.out, A_2_3_5_7.out, B_2_3_5_7.out, C_2_3_5_7.out⟩ (fun hHeld => ?_)
                clear hK K
                refine norm_ (a' := ?_) ?_ ?_
                rotate_left
                · show Act.put _ (some 46) _ = _
                  simp only [Act.put, OpenRow.s1, OpenRow.s2, OpenRow.s3, i64_w, i32_w]
                  rfl
                refine two_ (i := 8) (j := 10) (Ni := some 47) (Nj := some 9) #[true, true, true, true, true, true, true, true, true, false, false, false] #[true, true, true, true, true, true, true, true, false, false, true, false] rfl rfl rfl rfl (by kernel_rfl) (by decide) (by decide) (fun K hK => ?_) (fun K hK => ?_)
                · skip
                  refine goes_ Try.func54 (by kernel_rfl) rfl #[.agg (arr .i64 (fe c46))] (by rfl) rfl rfl (by simp only [List.map_toArray, List.map_cons, List.map_nil] <;> rfl) ?_
                  with_reducible refine (K47.out c46 hl46 hm46 _).mono ?_
                  rintro e w3 ⟨c47, hl47, hm47, rfl, hb⟩
                  refine ⟨_, rfl, ?_⟩
                  have U_2_3_5_7_8 := Aside0.mk (U_2_3_5_7.out.step hb)
                  have A_2_3_5_7_8 := Aside0.mk (blk_below A_2_3_5_7.out hb)
                  have B_2_3_5_7_8 := Aside0.mk (blk_below B_2_3_5_7.out hb)
                  have C_2_3_5_7_8 := Aside0.mk (blk_below C_2_3_5_7.out hb)
                  clear hb
                  refine hK.out _ _ ⟨U_2_3_5_7_8.out, A_2_3_5_7_8.out, B_2_3_5_7_8.out, C_2_3_5_7_8.out⟩ (fun hHeld => ?_)
                  clear hK K
                  refine norm_ (a' := ?_) ?_ ?_
                  rotate_left
                  · show Act.put _ (some 47) _ = _
                    simp only [Act.put, OpenRow.s1, OpenRow.s2, OpenRow.s3, i64_w, i32_w]
                    rfl
                  refine two_ (i := 9) (j := 10) (Ni := some 48) (Nj := some 9) #[true, true, true, true, true, true, true, true, true, true, false, false] #[true, true, true, true, true, true, true, true, true, false, true, false] rfl rfl rfl rfl (by kernel_rfl) (by decide) (by decide) (fun K hK => ?_) (fun K hK => ?_)
                  · skip
                    refine goes_ Try.func51 (by kernel_rfl) rfl #[.agg (arr .i64 (fe c41)), .agg (arr .i64 (fe c47))] (by rfl) rfl rfl (by simp only [List.map_toArray, List.map_cons, List.map_nil] <;> rfl) ?_
                    with_reducible refine (K48.out c41 hl41 hm41 c47 hl47 hm47 _).mono ?_
                    rintro e w3 ⟨c48, hl48, hm48, rfl, hb⟩
                    refine ⟨_, rfl, ?_⟩
                    have U_2_3_5_7_8_9 := Aside0.mk (U_2_3_5_7_8.out.step hb)
                    have A_2_3_5_7_8_9 := Aside0.mk (blk_below A_2_3_5_7_8.out hb)
                    have B_2_3_5_7_8_9 := Aside0.mk (blk_below B_2_3_5_7_8.out hb)
                    have C_2_3_5_7_8_9 := Aside0.mk (blk_below C_2_3_5_7_8.out hb)
                    clear hb
                    refine hK.out _ _ ⟨U_2_3_5_7_8_9.out, A_2_3_5_7_8_9.out, B_2_3_5_7_8_9.out, C_2_3_5_7_8_9.out⟩ (fun hHeld => ?_)
                    clear hK K
                    refine norm_ (a' := ?_) ?_ ?_
                    rotate_left
                    · show Act.put _ (some 48) _ = _
                      simp only [Act.put, OpenRow.s1, OpenRow.s2, OpenRow.s3, i64_w, i32_w]
                      rfl
                    refine one_ (i := 10) (N := some 9) #[true, true, true, true, true, true, true, true, true, true, true, false] rfl rfl (by kernel_rfl) (by decide) (fun K hK => ?_)
                    refine value_ (w1 := ?_) (v := ?_) (by rfl) rfl ?_ ?_
                    rotate_left 2
                    · go_simp
                      constructor
                      · rfl
                      · rfl
                    have U_2_3_5_7_8_9_10 := Aside0.mk (U_2_3_5_7_8_9.out.alloc (.cells (arr .i64 z16) 41))
                    have A_2_3_5_7_8_9_10 := Aside0.mk (blk_alloc A_2_3_5_7_8_9.out (.cells (arr .i64 z16) 41))
                    have B_2_3_5_7_8_9_10 := Aside0.mk (blk_alloc B_2_3_5_7_8_9.out (.cells (arr .i64 z16) 41))
                    have C_2_3_5_7_8_9_10 := Aside0.mk (blk_alloc C_2_3_5_7_8_9.out (.cells (arr .i64 z16) 41))
                    have G10_2_3_5_7_8_9_10 := Aside0.mk (U_2_3_5_7_8_9.out.new (.cells (arr .i64 z16) 41))
                    have E10 := Aside0.mk U_2_3_5_7_8_9.out.size
                    have M10_0 := Aside0.mk (ne_of_blk A_2_3_5_7_8_9.out)
                    have M10_1 := Aside0.mk (ne_of_blk B_2_3_5_7_8_9.out)
                    have M10_2 := Aside0.mk (ne_of_blk C_2_3_5_7_8_9.out)
                    refine hK.out _ _ ⟨U_2_3_5_7_8_9_10.out, A_2_3_5_7_8_9_10.out, B_2_3_5_7_8_9_10.out, C_2_3_5_7_8_9_10.out⟩ (fun hHeld => ?_)
                    clear hK K
                    refine norm_ (a' := ?_) ?_ ?_
                    rotate_left
                    · show Act.put _ (some 9) _ = _
                      simp only [Act.put, OpenRow.s1, OpenRow.s2, OpenRow.s3, i64_w, i32_w]
                      rfl
                    exact norm_ (by simp only [putAll, Act.put, List.setIfInBounds_toArray, List.set_cons_zero, List.set_cons_succ] <;> rfl) (hCont (c41, (c42, (c44, (c46, (c47, (c48, _)))))) _ ⟨U_2_3_5_7_8_9_10.out, A_2_3_5_7_8_9_10.out, B_2_3_5_7_8_9_10.out, C_2_3_5_7_8_9_10.out, G10_2_3_5_7_8_9_10.out, E10.out, M10_0.out, M10_1.out, M10_2.out, hl48, hm48⟩)
                  · skip
                    refine value_ (w1 := ?_) (v := ?_) (by rfl) rfl ?_ ?_
                    rotate_left 2
                    · go_simp
                      constructor
                      · rfl
                      · rfl
                    have U_2_3_5_7_8_10 := Aside0.mk (U_2_3_5_7_8.out.alloc (.cells (arr .i64 z16) 41))
                    have A_2_3_5_7_8_10 := Aside0.mk (blk_alloc A_2_3_5_7_8.out (.cells (arr .i64 z16) 41))
                    have B_2_3_5_7_8_10 := Aside0.mk (blk_alloc B_2_3_5_7_8.out (.cells (arr .i64 z16) 41))
                    have C_2_3_5_7_8_10 := Aside0.mk (blk_alloc C_2_3_5_7_8.out (.cells (arr .i64 z16) 41))
                    have G10_2_3_5_7_8_10 := Aside0.mk (U_2_3_5_7_8.out.new (.cells (arr .i64 z16) 41))
                    have E10 := Aside0.mk U_2_3_5_7_8.out.size
                    have M10_0 := Aside0.mk (ne_of_blk A_2_3_5_7_8.out)
                    have M10_1 := Aside0.mk (ne_of_blk B_2_3_5_7_8.out)
                    have M10_2 := Aside0.mk (ne_of_blk C_2_3_5_7_8.out)
                    refine hK.out _ _ ⟨U_2_3_5_7_8_10.out, A_2_3_5_7_8_10.out, B_2_3_5_7_8_10.out, C_2_3_5_7_8_10.out⟩ (fun hHeld => ?_)
                    clear hK K
                    refine norm_ (a' := ?_) ?_ ?_
                    rotate_left
                    · show Act.put _ (some 9) _ = _
                      simp only [Act.put, OpenRow.s1, OpenRow.s2, OpenRow.s3, i64_w, i32_w]
                      rfl
                    refine one_ (i := 9) (N := some 48) #[true, true, true, true, true, true, true, true, true, true, true, false] rfl rfl (by kernel_rfl) (by decide) (fun K hK => ?_)
                    refine goes_ Try.func51 (by kernel_rfl) rfl #[.agg (arr .i64 (fe c41)), .agg (arr .i64 (fe c47))] (by rfl) rfl rfl (by simp only [List.map_toArray, List.map_cons, List.map_nil] <;> rfl) ?_
                    with_reducible refine (K48.out c41 hl41 hm41 c47 hl47 hm47 _).mono ?_
                    rintro e w3 ⟨c48, hl48, hm48, rfl, hb⟩
                    refine ⟨_, rfl, ?_⟩
                    have U_2_3_5_7_8_10_9 := Aside0.mk (U_2_3_5_7_8_10.out.step hb)
                    have A_2_3_5_7_8_10_9 := Aside0.mk (blk_below A_2_3_5_7_8_10.out hb)
                    have B_2_3_5_7_8_10_9 := Aside0.mk (blk_below B_2_3_5_7_8_10.out hb)
                    have C_2_3_5_7_8_10_9 := Aside0.mk (blk_below C_2_3_5_7_8_10.out hb)
                    have G10_2_3_5_7_8_10_9 := Aside0.mk (blk_below G10_2_3_5_7_8_10.out hb)
                    clear hb
                    refine hK.out _ _ ⟨U_2_3_5_7_8_10_9.out, A_2_3_5_7_8_10_9.out, B_2_3_5_7_8_10_9.out, C_2_3_5_7_8_10_9.out⟩ (fun hHeld => ?_)
                    clear hK K
                    refine norm_ (a' := ?_) ?_ ?_
                    rotate_left
                    · show Act.put _ (some 48) _ = _
                      simp only [Act.put, OpenRow.s1, OpenRow.s2, OpenRow.s3, i64_w, i32_w]
                      rfl
                    exact norm_ (by simp only [putAll, Act.put, List.setIfInBounds_toArray, List.set_cons_zero, List.set_cons_succ] <;> rfl) (hCont (c41, (c42, (c44, (c46, (c47, (c48, _)))))) _ ⟨U_2_3_5_7_8_10_9.out, A_2_3_5_7_8_10_9.out, B_2_3_5_7_8_10_9.out, C_2_3_5_7_8_10_9.out, G10_2_3_5_7_8_10_9.out, E10.out, M10_0.out, M10_1.out, M10_2.out, hl48, hm48⟩)
                · skip
                  refine value_ (w1 := ?_) (v := ?_) (by rfl) rfl ?_ ?_
                  rotate_left 2
                  · go_simp
                    constructor
                    · rfl
                    · rfl
                  have U_2_3_5_7_10 := Aside0.mk (U_2_3_5_7.out.alloc (.cells (arr .i64 z16) 41))
                  have A_2_3_5_7_10 := Aside0.mk (blk_alloc A_2_3_5_7.out (.cells (arr .i64 z16) 41))
                  have B_2_3_5_7_10 := Aside0.mk (blk_alloc B_2_3_5_7.out (.cells (arr .i64 z16) 41))
                  have C_2_3_5_7_10 := Aside0.mk (blk_alloc C_2_3_5_7.out (.cells (arr .i64 z16) 41))
                  have G10_2_3_5_7_10 := Aside0.mk (U_2_3_5_7.out.new (.cells (arr .i64 z16) 41))
                  have E10 := Aside0.mk U_2_3_5_7.out.size
                  have M10_0 := Aside0.mk (ne_of_blk A_2_3_5_7.out)
                  have M10_1 := Aside0.mk (ne_of_blk B_2_3_5_7.out)
                  have M10_2 := Aside0.mk (ne_of_blk C_2_3_5_7.out)
                  refine hK.out _ _ ⟨U_2_3_5_7_10.out, A_2_3_5_7_10.out, B_2_3_5_7_10.out, C_2_3_5_7_10.out⟩ (fun hHeld => ?_)
                  clear hK K
                  refine norm_ (a' := ?_) ?_ ?_
                  rotate_left
                  · show Act.put _ (some 9) _ = _
                    simp only [Act.put, OpenRow.s1, OpenRow.s2, OpenRow.s3, i64_w, i32_w]
                    rfl
                  refine one_ (i := 8) (N := some 47) #[true, true, true, true, true, true, true, true, true, false, true, false] rfl rfl (by kernel_rfl) (by decide) (fun K hK => ?_)
                  refine goes_ Try.func54 (by kernel_rfl) rfl #[.agg (arr .i64 (fe c46))] (by rfl) rfl rfl (by simp only [List.map_toArray, List.map_cons, List.map_nil] <;> rfl) ?_
                  with_reducible refine (K47.out c46 hl46 hm46 _).mono ?_
                  rintro e w3 ⟨c47, hl47, hm47, rfl, hb⟩
                  refine ⟨_, rfl, ?_⟩
                  have U_2_3_5_7_10_8 := Aside0.mk (U_2_3_5_7_10.out.step hb)
                  have A_2_3_5_7_10_8 := Aside0.mk (blk_below A_2_3_5_7_10.out hb)
                  have B_2_3_5_7_10_8 := Aside0.mk (blk_below B_2_3_5_7_10.out hb)
                  have C_2_3_5_7_10_8 := Aside0.mk (blk_below C_2_3_5_7_10.out hb)
                  have G10_2_3_5_7_10_8 := Aside0.mk (blk_below G10_2_3_5_7_10.out hb)
                  clear hb
                  refine hK.out _ _ ⟨U_2_3_5_7_10_8.out, A_2_3_5_7_10_8.out, B_2_3_5_7_10_8.out, C_2_3_5_7_10_8.out⟩ (fun hHeld => ?_)
                  clear hK K
                  refine norm_ (a' := ?_) ?_ ?_
                  rotate_left
                  · show Act.put _ (some 47) _ = _
                    simp only [Act.put, OpenRow.s1, OpenRow.s2, OpenRow.s3, i64_w, i32_w]
                    rfl
                  refine one_ (i := 9) (N := some 48) #[true, true, true, true, true, true, true, true, true, true, true, false] rfl rfl (by kernel_rfl) (by decide) (fun K hK => ?_)
                  refine goes_ Try.func51 (by kernel_rfl) rfl #[.agg (arr .i64 (fe c41)), .agg (arr .i64 (fe c47))] (by rfl) rfl rfl (by simp only [List.map_toArray, List.map_cons, List.map_nil] <;> rfl) ?_
                  with_reducible refine (K48.out c41 hl41 hm41 c47 hl47 hm47 _).mono ?_
                  rintro e w3 ⟨c48, hl48, hm48, rfl, hb⟩
                  refine ⟨_, rfl, ?_⟩
                  have U_2_3_5_7_10_8_9 := Aside0.mk (U_2_3_5_7_10_8.out.step hb)
                  have A_2_3_5_7_10_8_9 := Aside0.mk (blk_below A_2_3_5_7_10_8.out hb)
                  have B_2_3_5_7_10_8_9 := Aside0.mk (blk_below B_2_3_5_7_10_8.out hb)
                  have C_2_3_5_7_10_8_9 := Aside0.mk (blk_below C_2_3_5_7_10_8.out hb)
                  have G10_2_3_5_7_10_8_9 := Aside0.mk (blk_below G10_2_3_5_7_10_8.out hb)
                  clear hb
                  refine hK.out _ _ ⟨U_2_3_5_7_10_8_9.out, A_2_3_5_7_10_8_9.out, B_2_3_5_7_10_8_9.out, C_2_3_5_7_10_8_9.out⟩ (fun hHeld => ?_)
                  clear hK K
                  refine norm_ (a' := ?_) ?_ ?_
                  rotate_left
                  · show Act.put _ (some 48) _ = _
                    simp only [Act.put, OpenRow.s1, OpenRow.s2, OpenRow.s3, i64_w, i32_w]
                    rfl
                  exact norm_ (by simp only [putAll, Act.put, List.setIfInBounds_toArray, List.set_cons_zero, List.set_cons_succ] <;> rfl) (hCont (c41, (c42, (c44, (c46, (c47, (c48, _)))))) _ ⟨U_2_3_5_7_10_8_9.out, A_2_3_5_7_10_8_9.out, B_2_3_5_7_10_8_9.out, C_2_3_5_7_10_8_9.out, G10_2_3_5_7_10_8_9.out, E10.out, M10_0.out, M10_1.out, M10_2.out, hl48, hm48⟩)
              · skip
                refine value_ (w1 := ?_) (v := ?_) (by rfl) rfl ?_ ?_
                rotate_left 2
                · go_simp
                  constructor
                  · rfl
                  · rfl
                have U_2_3_5_10 := Aside0.mk (U_2_3_5.out.alloc (.cells (arr .i64 z16) 41))
                have A_2_3_5_10 := Aside0.mk (blk_alloc A_2_3_5.out (.cells (arr .i64 z16) 41))
                have B_2_3_5_10 := Aside0.mk (blk_alloc B_2_3_5.out (.cells (arr .i64 z16) 41))
                have C_2_3_5_10 := Aside0.mk (blk_alloc C_2_3_5.out (.cells (arr .i64 z16) 41))
                have G10_2_3_5_10 := Aside0.mk (U_2_3_5.out.new (.cells (arr .i64 z16) 41))
                have E10 := Aside0.mk U_2_3_5.out.size
                have M10_0 := Aside0.mk (ne_of_blk A_2_3_5.out)
                have M10_1 := Aside0.mk (ne_of_blk B_2_3_5.out)
                have M10_2 := Aside0.mk (ne_of_blk C_2_3_5.out)
                refine hK.out _ _ ⟨U_2_3_5_10.out, A_2_3_5_10.out, B_2_3_5_10.out, C_2_3_5_10.out⟩ (fun hHeld => ?_)
                clear hK K
                refine norm_ (a' := ?_) ?_ ?_
                rotate_left
                · show Act.put _ (some 9) _ = _
                  simp only [Act.put, OpenRow.s1, OpenRow.s2, OpenRow.s3, i64_w, i32_w]
                  rfl
                refine one_ (i := 7) (N := some 46) #[true, true, true, true, true, true, true, true, false, false, true, false] rfl rfl (by kernel_rfl) (by decide) (fun K hK => ?_)
                refine goes_ Try.func21 (by kernel_rfl) rfl #[.agg (arr .i64 (fe c44)), .agg (arr .i64 (fe 1))] (by rfl) rfl rfl (by simp only [List.map_toArray, List.map_cons, List.map_nil] <;> rfl) ?_
                with_reducible refine (K46.out c44 hl44 hm44 _).mono ?_
                rintro e w3 ⟨c46, hl46, hm46, rfl, hb⟩
                refine ⟨_, rfl, ?_⟩
                have U_2_3_5_10_7 := Aside0.mk (U_2_3_5_10.out.step hb)
                have A_2_3_5_10_7 := Aside0.mk (blk_below A_2_3_5_10.out hb)
                have B_2_3_5_10_7 := Aside0.mk (blk_below B_2_3_5_10.out hb)
                have C_2_3_5_10_7 := Aside0.mk (blk_below C_2_3_5_10.out hb)
                have G10_2_3_5_10_7 := Aside0.mk (blk_below G10_2_3_5_10.out hb)
                clear hb
                refine hK.out _ _ ⟨U_2_3_5_10_7.out, A_2_3_5_10_7.out, B_2_3_5_10_7.out, C_2_3_5_10_7.out⟩ (fun hHeld => ?_)
                clear hK K
                refine norm_ (a' := ?_) ?_ ?_
                rotate_left
                · show Act.put _ (some 46) _ = _
                  simp only [Act.put, OpenRow.s1, OpenRow.s2, OpenRow.s3, i64_w, i32_w]
                  rfl
                refine one_ (i := 8) (N := some 47) #[true, true, true, true, true, true, true, true, true, false, true, false] rfl rfl (by kernel_rfl) (by decide) (fun K hK => ?_)
                refine goes_ Try.func54 (by kernel_rfl) rfl #[.agg (arr .i64 (fe c46))] (by rfl) rfl rfl (by simp only [List.map_toArray, List.map_cons, List.map_nil] <;> rfl) ?_
                with_reducible refine (K47.out c46 hl46 hm46 _).mono ?_
                rintro e w3 ⟨c47, hl47, hm47, rfl, hb⟩
                refine ⟨_, rfl, ?_⟩
                have U_2_3_5_10_7_8 := Aside0.mk (U_2_3_5_10_7.out.step hb)
                have A_2_3_5_10_7_8 := Aside0.mk (blk_below A_2_3_5_10_7.out hb)
                have B_2_3_5_10_7_8 := Aside0.mk (blk_below B_2_3_5_10_7.out hb)
                have C_2_3_5_10_7_8 := Aside0.mk (blk_below C_2_3_5_10_7.out hb)
                have G10_2_3_5_10_7_8 := Aside0.mk (blk_below G10_2_3_5_10_7.out hb)
                clear hb
                refine hK.out _ _ ⟨U_2_3_5_10_7_8.out, A_2_3_5_10_7_8.out, B_2_3_5_10_7_8.out, C_2_3_5_10_7_8.out⟩ (fun hHeld => ?_)
                clear hK K
                refine norm_ (a' := ?_) ?_ ?_
                rotate_left
                · show Act.put _ (some 47) _ = _
                  simp only [Act.put, OpenRow.s1, OpenRow.s2, OpenRow.s3, i64_w, i32_w]
                  rfl
                refine one_ (i := 9) (N := some 48) #[true, true, true, true, true, true, true, true, true, true, true, false] rfl rfl (by kernel_rfl) (by decide) (fun K hK => ?_)
                refine goes_ Try.func51 (by kernel_rfl) rfl #[.agg (arr .i64 (fe c41)), .agg (arr .i64 (fe c47))] (by rfl) rfl rfl (by simp only [List.map_toArray, List.map_cons, List.map_nil] <;> rfl) ?_
                with_reducible refine (K48.out c41 hl41 hm41 c47 hl47 hm47 _).mono ?_
                rintro e w3 ⟨c48, hl48, hm48, rfl, hb⟩
                refine ⟨_, rfl, ?_⟩
                have U_2_3_5_10_7_8_9 := Aside0.mk (U_2_3_5_10_7_8.out.step hb)
                have A_2_3_5_10_7_8_9 := Aside0.mk (blk_below A_2_3_5_10_7_8.out hb)
                have B_2_3_5_10_7_8_9 := Aside0.mk (blk_below B_2_3_5_10_7_8.out hb)
                have C_2_3_5_10_7_8_9 := Aside0.mk (blk_below C_2_3_5_10_7_8.out hb)
                have G10_2_3_5_10_7_8_9 := Aside0.mk (blk_below G10_2_3_5_10_7_8.out hb)
                clear hb
                refine hK.out _ _ ⟨U_2_3_5_10_7_8_9.out, A_2_3_5_10_7_8_9.out, B_2_3_5_10_7_8_9.out, C_2_3_5_10_7_8_9.out⟩ (fun hHeld => ?_)
                clear hK K
                refine norm_ (a' := ?_) ?_ ?_
                rotate_left
                · show Act.put _ (some 48) _ = _
                  simp only [Act.put, OpenRow.s1, OpenRow.s2, OpenRow.s3, i64_w, i32_w]
                  rfl
                exact norm_ (by simp only [putAll, Act.put, List.setIfInBounds_toArray, List.set_cons_zero, List.set_cons_succ] <;> rfl) (hCont (c41, (c42, (c44, (c46, (c47, (c48, _)))))) _ ⟨U_2_3_5_10_7_8_9.out, A_2_3_5_10_7_8_9.out, B_2_3_5_10_7_8_9.out, C_2_3_5_10_7_8_9.out, G10_2_3_5_10_7_8_9.out, E10.out, M10_0.out, M10_1.out, M10_2.out, hl48, hm48⟩)
            · skip
              refine value_ (w1 := ?_) (v := ?_) (by rfl) rfl ?_ ?_
              rotate_left 2
              · go_simp
                constructor
                · rfl
                · rfl
              have U_2_3_10 := Aside0.mk (U_2_3.out.alloc (.cells (arr .i64 z16) 41))
              have A_2_3_10 := Aside0.mk (blk_alloc A_2_3.out (.cells (arr .i64 z16) 41))
              have B_2_3_10 := Aside0.mk (blk_alloc B_2_3.out (.cells (arr .i64 z16) 41))
              have C_2_3_10 := Aside0.mk (blk_alloc C_2_3.out (.cells (arr .i64 z16) 41))
              have G10_2_3_10 := Aside0.mk (U_2_3.out.new (.cells (arr .i64 z16) 41))
              have E10 := Aside0.mk U_2_3.out.size
              have M10_0 := Aside0.mk (ne_of_blk A_2_3.out)
              have M10_1 := Aside0.mk (ne_of_blk B_2_3.out)
              have M10_2 := Aside0.mk (ne_of_blk C_2_3.out)
              refine hK.out _ _ ⟨U_2_3_10.out, A_2_3_10.out, B_2_3_10.out, C_2_3_10.out⟩ (fun hHeld => ?_)
              clear hK K
              refine norm_ (a' := ?_) ?_ ?_
              rotate_left
              · show Act.put _ (some 9) _ = _
                simp only [Act.put, OpenRow.s1, OpenRow.s2, OpenRow.s3, i64_w, i32_w]
                rfl
              refine one_ (i := 5) (N := some 44) #[true, true, true, true, true, true, true, false, false, false, true, false] rfl rfl (by kernel_rfl) (by decide) (fun K hK => ?_)
              refine goes_ Try.func51 (by kernel_rfl) rfl #[.agg (arr .i64 (fe c42)), .agg (arr .i64 (fe q))] (by rfl) rfl rfl (by simp only [List.map_toArray, List.map_cons, List.map_nil] <;> rfl) ?_
              with_reducible refine (K44.out c42 hl42 hm42 _).mono ?_
              rintro e w3 ⟨c44, hl44, hm44, rfl, hb⟩
              refine ⟨_, rfl, ?_⟩
              have U_2_3_10_5 := Aside0.mk (U_2_3_10.out.step hb)
              have A_2_3_10_5 := Aside0.mk (blk_below A_2_3_10.out hb)
              have B_2_3_10_5 := Aside0.mk (blk_below B_2_3_10.out hb)
              have C_2_3_10_5 := Aside0.mk (blk_below C_2_3_10.out hb)
              have G10_2_3_10_5 := Aside0.mk (blk_below G10_2_3_10.out hb)
              clear hb
              refine hK.out _ _ ⟨U_2_3_10_5.out, A_2_3_10_5.out, B_2_3_10_5.out, C_2_3_10_5.out⟩ (fun hHeld => ?_)
              clear hK K
              refine norm_ (a' := ?_) ?_ ?_
              rotate_left
              · show Act.put _ (some 44) _ = _
                simp only [Act.put, OpenRow.s1, OpenRow.s2, OpenRow.s3, i64_w, i32_w]
                rfl
              refine one_ (i := 7) (N := some 46) #[true, true, true, true, true, true, true, true, false, false, true, false] rfl rfl (by kernel_rfl) (by decide) (fun K hK => ?_)
              refine goes_ Try.func21 (by kernel_rfl) rfl #[.agg (arr .i64 (fe c44)), .agg (arr .i64 (fe 1))] (by rfl) rfl rfl (by simp only [List.map_toArray, List.map_cons, List.map_nil] <;> rfl) ?_
              with_reducible refine (K46.out c44 hl44 hm44 _).mono ?_
              rintro e w3 ⟨c46, hl46, hm46, rfl, hb⟩
              refine ⟨_, rfl, ?_⟩
              have U_2_3_10_5_7 := Aside0.mk (U_2_3_10_5.out.step hb)
              have A_2_3_10_5_7 := Aside0.mk (blk_below A_2_3_10_5.out hb)
              have B_2_3_10_5_7 := Aside0.mk (blk_below B_2_3_10_5.out hb)
              have C_2_3_10_5_7 := Aside0.mk (blk_below C_2_3_10_5.out hb)
              have G10_2_3_10_5_7 := Aside0.mk (blk_below G10_2_3_10_5.out hb)
              clear hb
              refine hK.out _ _ ⟨U_2_3_10_5_7.out, A_2_3_10_5_7.out, B_2_3_10_5_7.out, C_2_3_10_5_7.out⟩ (fun hHeld => ?_)
              clear hK K
              refine norm_ (a' := ?_) ?_ ?_
              rotate_left
              · show Act.put _ (some 46) _ = _
                simp only [Act.put, OpenRow.s1, OpenRow.s2, OpenRow.s3, i64_w, i32_w]
                rfl
              refine one_ (i := 8) (N := some 47) #[true, true, true, true, true, true, true, true, true, false, true, false] rfl rfl (by kernel_rfl) (by decide) (fun K hK => ?_)
              refine goes_ Try.func54 (by kernel_rfl) rfl #[.agg (arr .i64 (fe c46))] (by rfl) rfl rfl (by simp only [List.map_toArray, List.map_cons, List.map_nil] <;> rfl) ?_
              with_reducible refine (K47.out c46 hl46 hm46 _).mono ?_
              rintro e w3 ⟨c47, hl47, hm47, rfl, hb⟩
              refine ⟨_, rfl, ?_⟩
              have U_2_3_10_5_7_8 := Aside0.mk (U_2_3_10_5_7.out.step hb)
              have A_2_3_10_5_7_8 := Aside0.mk (blk_below A_2_3_10_5_7.out hb)
              have B_2_3_10_5_7_8 := Aside0.mk (blk_below B_2_3_10_5_7.out hb)
              have C_2_3_10_5_7_8 := Aside0.mk (blk_below C_2_3_10_5_7.out hb)
              have G10_2_3_10_5_7_8 := Aside0.mk (blk_below G10_2_3_10_5_7.out hb)
              clear hb
              refine hK.out _ _ ⟨U_2_3_10_5_7_8.out, A_2_3_10_5_7_8.out, B_2_3_10_5_7_8.out, C_2_3_10_5_7_8.out⟩ (fun hHeld => ?_)
              clear hK K
              refine norm_ (a' := ?_) ?_ ?_
              rotate_left
              · show Act.put _ (some 47) _ = _
                simp only [Act.put, OpenRow.s1, OpenRow.s2, OpenRow.s3, i64_w, i32_w]
                rfl
              refine one_ (i := 9) (N := some 48) #[true, true, true, true, true, true, true, true, true, true, true, false] rfl rfl (by kernel_rfl) (by decide) (fun K hK => ?_)
              refine goes_ Try.func51 (by kernel_rfl) rfl #[.agg (arr .i64 (fe c41)), .agg (arr .i64 (fe c47))] (by rfl) rfl rfl (by simp only [List.map_toArray, List.map_cons, List.map_nil] <;> rfl) ?_
              with_reducible refine (K48.out c41 hl41 hm41 c47 hl47 hm47 _).mono ?_
              rintro e w3 ⟨c48, hl48, hm48, rfl, hb⟩
              refine ⟨_, rfl, ?_⟩
              have U_2_3_10_5_7_8_9 := Aside0.mk (U_2_3_10_5_7_8.out.step hb)
              have A_2_3_10_5_7_8_9 := Aside0.mk (blk_below A_2_3_10_5_7_8.out hb)
              have B_2_3_10_5_7_8_9 := Aside0.mk (blk_below B_2_3_10_5_7_8.out hb)
              have C_2_3_10_5_7_8_9 := Aside0.mk (blk_below C_2_3_10_5_7_8.out hb)
              have G10_2_3_10_5_7_8_9 := Aside0.mk (blk_below G10_2_3_10_5_7_8.out hb)
              clear hb
              refine hK.out _ _ ⟨U_2_3_10_5_7_8_9.out, A_2_3_10_5_7_8_9.out, B_2_3_10_5_7_8_9.out, C_2_3_10_5_7_8_9.out⟩ (fun hHeld => ?_)
              clear hK K
              refine norm_ (a' := ?_) ?_ ?_
              rotate_left
              · show Act.put _ (some 48) _ = _
                simp only [Act.put, OpenRow.s1, OpenRow.s2, OpenRow.s3, i64_w, i32_w]
                rfl
              exact norm_ (by simp only [putAll, Act.put, List.setIfInBounds_toArray, List.set_cons_zero, List.set_cons_succ] <;> rfl) (hCont (c41, (c42, (c44, (c46, (c47, (c48, _)))))) _ ⟨U_2_3_10_5_7_8_9.out, A_2_3_10_5_7_8_9.out, B_2_3_10_5_7_8_9.out, C_2_3_10_5_7_8_9.out, G10_2_3_10_5_7_8_9.out, E10.out, M10_0.out, M10_1.out, M10_2.out, hl48, hm48⟩)
          · skip
            refine value_ (w1 := ?_) (v := ?_) (by rfl) rfl ?_ ?_
            rotate_left 2
            · go_simp
              constructor
              · rfl
              · rfl
            have U_2_10 := Aside0.mk (U_2.out.alloc (.cells (arr .i64 z16) 41))
            have A_2_10 := Aside0.mk (blk_alloc A_2.out (.cells (arr .i64 z16) 41))
            have B_2_10 := Aside0.mk (blk_alloc B_2.out (.cells (arr .i64 z16) 41))
            have C_2_10 := Aside0.mk (blk_alloc C_2.out (.cells (arr .i64 z16) 41))
            have G10_2_10 := Aside0.mk (U_2.out.new (.cells (arr .i64 z16) 41))
            have E10 := Aside0.mk U_2.out.size
            have M10_0 := Aside0.mk (ne_of_blk A_2.out)
            have M10_1 := Aside0.mk (ne_of_blk B_2.out)
            have M10_2 := Aside0.mk (ne_of_blk C_2.out)
            refine hK.out _ _ ⟨U_2_10.out, A_2_10.out, B_2_10.out, C_2_10.out⟩ (fun hHeld => ?_)
            clear hK K
            refine norm_ (a' := ?_) ?_ ?_
            rotate_left
            · show Act.put _ (some 9) _ = _
              simp only [Act.put, OpenRow.s1, OpenRow.s2, OpenRow.s3, i64_w, i32_w]
              rfl
            refine one_ (i := 3) (N := some 42) #[true, true, true, true, true, false, true, false, false, false, true, false] rfl rfl (by kernel_rfl) (by decide) (fun K hK => ?_)
            refine goes_ Try.func22 (by kernel_rfl) rfl #[] (by rfl) rfl rfl (by simp only [List.map_toArray, List.map_cons, List.map_nil] <;> rfl) ?_
            with_reducible refine (K42.out _).mono ?_
            rintro e w3 ⟨c42, hl42, hm42, rfl, hb⟩
            refine ⟨_, rfl, ?_⟩
            have U_2_10_3 := Aside0.mk (U_2_10.out.step hb)
            have A_2_10_3 := Aside0.mk (blk_below A_2_10.out hb)
            have B_2_10_3 := Aside0.mk (blk_below B_2_10.out hb)
            have C_2_10_3 := Aside0.mk (blk_below C_2_10.out hb)
            have G10_2_10_3 := Aside0.mk (blk_below G10_2_10.out hb)
            clear hb
            refine hK.out _ _ ⟨U_2_10_3.out, A_2_10_3.out, B_2_10_3.out, C_2_10_3.out⟩ (fun hHeld => ?_)
            clear hK K
            refine norm_ (a' := ?_) ?_ ?_
            rotate_left
            · show Act.put _ (some 42) _ = _
              simp only [Act.put, OpenRow.s1, OpenRow.s2, OpenRow.s3, i64_w, i32_w]
              rfl
            refine one_ (i := 5) (N := some 44) #[true, true, true, true, true, true, true, false, false, false, true, false] rfl rfl (by kernel_rfl) (by decide) (fun K hK => ?_)
            refine goes_ Try.func51 (by kernel_rfl) rfl #[.agg (arr .i64 (fe c42)), .agg (arr .i64 (fe q))] (by rfl) rfl rfl (by simp only [List.map_toArray, List.map_cons, List.map_nil] <;> rfl) ?_
            with_reducible refine (K44.out c42 hl42 hm42 _).mono ?_
            rintro e w3 ⟨c44, hl44, hm44, rfl, hb⟩
            refine ⟨_, rfl, ?_⟩
            have U_2_10_3_5 := Aside0.mk (U_2_10_3.out.step hb)
            have A_2_10_3_5 := Aside0.mk (blk_below A_2_10_3.out hb)
            have B_2_10_3_5 := Aside0.mk (blk_below B_2_10_3.out hb)
            have C_2_10_3_5 := Aside0.mk (blk_below C_2_10_3.out hb)
            have G10_2_10_3_5 := Aside0.mk (blk_below G10_2_10_3.out hb)
            clear hb
            refine hK.out _ _ ⟨U_2_10_3_5.out, A_2_10_3_5.out, B_2_10_3_5.out, C_2_10_3_5.out⟩ (fun hHeld => ?_)
            clear hK K
            refine norm_ (a' := ?_) ?_ ?_
            rotate_left
            · show Act.put _ (some 44) _ = _
              simp only [Act.put, OpenRow.s1, OpenRow.s2, OpenRow.s3, i64_w, i32_w]
              rfl
            refine one_ (i := 7) (N := some 46) #[true, true, true, true, true, true, true, true, false, false, true, false] rfl rfl (by kernel_rfl) (by decide) (fun K hK => ?_)
            refine goes_ Try.func21 (by kernel_rfl) rfl #[.agg (arr .i64 (fe c44)), .agg (arr .i64 (fe 1))] (by rfl) rfl rfl (by simp only [List.map_toArray, List.map_cons, List.map_nil] <;> rfl) ?_
            with_reducible refine (K46.out c44 hl44 hm44 _).mono ?_
            rintro e w3 ⟨c46, hl46, hm46, rfl, hb⟩
            refine ⟨_, rfl, ?_⟩
            have U_2_10_3_5_7 := Aside0.mk (U_2_10_3_5.out.step hb)
            have A_2_10_3_5_7 := Aside0.mk (blk_below A_2_10_3_5.out hb)
            have B_2_10_3_5_7 := Aside0.mk (blk_below B_2_10_3_5.out hb)
            have C_2_10_3_5_7 := Aside0.mk (blk_below C_2_10_3_5.out hb)
            have G10_2_10_3_5_7 := Aside0.mk (blk_below G10_2_10_3_5.out hb)
            clear hb
            refine hK.out _ _ ⟨U_2_10_3_5_7.out, A_2_10_3_5_7.out, B_2_10_3_5_7.out, C_2_10_3_5_7.out⟩ (fun hHeld => ?_)
            clear hK K
            refine norm_ (a' := ?_) ?_ ?_
            rotate_left
            · show Act.put _ (some 46) _ = _
              simp only [Act.put, OpenRow.s1, OpenRow.s2, OpenRow.s3, i64_w, i32_w]
              rfl
            refine one_ (i := 8) (N := some 47) #[true, true, true, true, true, true, true, true, true, false, true, false] rfl rfl (by kernel_rfl) (by decide) (fun K hK => ?_)
            refine goes_ Try.func54 (by kernel_rfl) rfl #[.agg (arr .i64 (fe c46))] (by rfl) rfl rfl (by simp only [List.map_toArray, List.map_cons, List.map_nil] <;> rfl) ?_
            with_reducible refine (K47.out c46 hl46 hm46 _).mono ?_
            rintro e w3 ⟨c47, hl47, hm47, rfl, hb⟩
            refine ⟨_, rfl, ?_⟩
            have U_2_10_3_5_7_8 := Aside0.mk (U_2_10_3_5_7.out.step hb)
            have A_2_10_3_5_7_8 := Aside0.mk (blk_below A_2_10_3_5_7.out hb)
            have B_2_10_3_5_7_8 := Aside0.mk (blk_below B_2_10_3_5_7.out hb)
            have C_2_10_3_5_7_8 := Aside0.mk (blk_below C_2_10_3_5_7.out hb)
            have G10_2_10_3_5_7_8 := Aside0.mk (blk_below G10_2_10_3_5_7.out hb)
            clear hb
            refine hK.out _ _ ⟨U_2_10_3_5_7_8.out, A_2_10_3_5_7_8.out, B_2_10_3_5_7_8.out, C_2_10_3_5_7_8.out⟩ (fun hHeld => ?_)
            clear hK K
            refine norm_ (a' := ?_) ?_ ?_
            rotate_left
            · show Act.put _ (some 47) _ = _
              simp only [Act.put, OpenRow.s1, OpenRow.s2, OpenRow.s3, i64_w, i32_w]
              rfl
            refine one_ (i := 9) (N := some 48) #[true, true, true, true, true, true, true, true, true, true, true, false] rfl rfl (by kernel_rfl) (by decide) (fun K hK => ?_)
            refine goes_ Try.func51 (by kernel_rfl) rfl #[.agg (arr .i64 (fe c41)), .agg (arr .i64 (fe c47))] (by rfl) rfl rfl (by simp only [List.map_toArray, List.map_cons, List.map_nil] <;> rfl) ?_
            with_reducible refine (K48.out c41 hl41 hm41 c47 hl47 hm47 _).mono ?_
            rintro e w3 ⟨c48, hl48, hm48, rfl, hb⟩
            refine ⟨_, rfl, ?_⟩
            have U_2_10_3_5_7_8_9 := Aside0.mk (U_2_10_3_5_7_8.out.step hb)
            have A_2_10_3_5_7_8_9 := Aside0.mk (blk_below A_2_10_3_5_7_8.out hb)
            have B_2_10_3_5_7_8_9 := Aside0.mk (blk_below B_2_10_3_5_7_8.out hb)
            have C_2_10_3_5_7_8_9 := Aside0.mk (blk_below C_2_10_3_5_7_8.out hb)
            have G10_2_10_3_5_7_8_9 := Aside0.mk (blk_below G10_2_10_3_5_7_8.out hb)
            clear hb
            refine hK.out _ _ ⟨U_2_10_3_5_7_8_9.out, A_2_10_3_5_7_8_9.out, B_2_10_3_5_7_8_9.out, C_2_10_3_5_7_8_9.out⟩ (fun hHeld => ?_)
            clear hK K
            refine norm_ (a' := ?_) ?_ ?_
            rotate_left
            · show Act.put _ (some 48) _ = _
              simp only [Act.put, OpenRow.s1, OpenRow.s2, OpenRow.s3, i64_w, i32_w]
              rfl
            exact norm_ (by simp only [putAll, Act.put, List.setIfInBounds_toArray, List.set_cons_zero, List.set_cons_succ] <;> rfl) (hCont (c41, (c42, (c44, (c46, (c47, (c48, _)))))) _ ⟨U_2_10_3_5_7_8_9.out, A_2_10_3_5_7_8_9.out, B_2_10_3_5_7_8_9.out, C_2_10_3_5_7_8_9.out, G10_2_10_3_5_7_8_9.out, E10.out, M10_0.out, M10_1.out, M10_2.out, hl48, hm48⟩)
        · skip
          refine value_ (w1 := ?_) (v := ?_) (by rfl) rfl ?_ ?_
          rotate_left 2
          · go_simp
            constructor
            · rfl
            · rfl
          have U_10 := Aside0.mk (U.out.alloc (.cells (arr .i64 z16) 41))
          have A_10 := Aside0.mk (blk_alloc A.out (.cells (arr .i64 z16) 41))
          have B_10 := Aside0.mk (blk_alloc B.out (.cells (arr .i64 z16) 41))
          have C_10 := Aside0.mk (blk_alloc C.out (.cells (arr .i64 z16) 41))
          have G10_10 := Aside0.mk (U.out.new (.cells (arr .i64 z16) 41))
          have E10 := Aside0.mk U.out.size
          have M10_0 := Aside0.mk (ne_of_blk A.out)
          have M10_1 := Aside0.mk (ne_of_blk B.out)
          have M10_2 := Aside0.mk (ne_of_blk C.out)
          refine hK.out _ _ ⟨U_10.out, A_10.out, B_10.out, C_10.out⟩ (fun hHeld => ?_)
          clear hK K
          refine norm_ (a' := ?_) ?_ ?_
          rotate_left
          · show Act.put _ (some 9) _ = _
            simp only [Act.put, OpenRow.s1, OpenRow.s2, OpenRow.s3, i64_w, i32_w]
            rfl
          refine one_ (i := 2) (N := some 41) #[true, true, true, false, true, false, true, false, false, false, true, false] rfl rfl (by kernel_rfl) (by decide) (fun K hK => ?_)
          refine goes_ Try.func53 (by kernel_rfl) rfl #[.agg (arr .i64 (fe q)), .agg (arr .i64 (fe 1))] (by rfl) rfl rfl (by simp only [List.map_toArray, List.map_cons, List.map_nil] <;> rfl) ?_
          with_reducible refine (K41.out _).mono ?_
          rintro e w3 ⟨c41, hl41, hm41, rfl, hb⟩
          refine ⟨_, rfl, ?_⟩
          have U_10_2 := Aside0.mk (U_10.out.step hb)
          have A_10_2 := Aside0.mk (blk_below A_10.out hb)
          have B_10_2 := Aside0.mk (blk_below B_10.out hb)
          have C_10_2 := Aside0.mk (blk_below C_10.out hb)
          have G10_10_2 := Aside0.mk (blk_below G10_10.out hb)
          clear hb
          refine hK.out _ _ ⟨U_10_2.out, A_10_2.out, B_10_2.out, C_10_2.out⟩ (fun hHeld => ?_)
          clear hK K
          refine norm_ (a' := ?_) ?_ ?_
          rotate_left
          · show Act.put _ (some 41) _ = _
            simp only [Act.put, OpenRow.s1, OpenRow.s2, OpenRow.s3, i64_w, i32_w]
            rfl
          refine one_ (i := 3) (N := some 42) #[true, true, true, true, true, false, true, false, false, false, true, false] rfl rfl (by kernel_rfl) (by decide) (fun K hK => ?_)
          refine goes_ Try.func22 (by kernel_rfl) rfl #[] (by rfl) rfl rfl (by simp only [List.map_toArray, List.map_cons, List.map_nil] <;> rfl) ?_
          with_reducible refine (K42.out _).mono ?_
          rintro e w3 ⟨c42, hl42, hm42, rfl, hb⟩
          refine ⟨_, rfl, ?_⟩
          have U_10_2_3 := Aside0.mk (U_10_2.out.step hb)
          have A_10_2_3 := Aside0.mk (blk_below A_10_2.out hb)
          have B_10_2_3 := Aside0.mk (blk_below B_10_2.out hb)
          have C_10_2_3 := Aside0.mk (blk_below C_10_2.out hb)
          have G10_10_2_3 := Aside0.mk (blk_below G10_10_2.out hb)
          clear hb
          refine hK.out _ _ ⟨U_10_2_3.out, A_10_2_3.out, B_10_2_3.out, C_10_2_3.out⟩ (fun hHeld => ?_)
          clear hK K
          refine norm_ (a' := ?_) ?_ ?_
          rotate_left
          · show Act.put _ (some 42) _ = _
            simp only [Act.put, OpenRow.s1, OpenRow.s2, OpenRow.s3, i64_w, i32_w]
            rfl
          refine one_ (i := 5) (N := some 44) #[true, true, true, true, true, true, true, false, false, false, true, false] rfl rfl (by kernel_rfl) (by decide) (fun K hK => ?_)
          refine goes_ Try.func51 (by kernel_rfl) rfl #[.agg (arr .i64 (fe c42)), .agg (arr .i64 (fe q))] (by rfl) rfl rfl (by simp only [List.map_toArray, List.map_cons, List.map_nil] <;> rfl) ?_
          with_reducible refine (K44.out c42 hl42 hm42 _).mono ?_
          rintro e w3 ⟨c44, hl44, hm44, rfl, hb⟩
          refine ⟨_, rfl, ?_⟩
          have U_10_2_3_5 := Aside0.mk (U_10_2_3.out.step hb)
          have A_10_2_3_5 := Aside0.mk (blk_below A_10_2_3.out hb)
          have B_10_2_3_5 := Aside0.mk (blk_below B_10_2_3.out hb)
          have C_10_2_3_5 := Aside0.mk (blk_below C_10_2_3.out hb)
          have G10_10_2_3_5 := Aside0.mk (blk_below G10_10_2_3.out hb)
          clear hb
          refine hK.out _ _ ⟨U_10_2_3_5.out, A_10_2_3_5.out, B_10_2_3_5.out, C_10_2_3_5.out⟩ (fun hHeld => ?_)
          clear hK K
          refine norm_ (a' := ?_) ?_ ?_
          rotate_left
          · show Act.put _ (some 44) _ = _
            simp only [Act.put, OpenRow.s1, OpenRow.s2, OpenRow.s3, i64_w, i32_w]
            rfl
          refine one_ (i := 7) (N := some 46) #[true, true, true, true, true, true, true, true, false, false, true, false] rfl rfl (by kernel_rfl) (by decide) (fun K hK => ?_)
          refine goes_ Try.func21 (by kernel_rfl) rfl #[.agg (arr .i64 (fe c44)), .agg (arr .i64 (fe 1))] (by rfl) rfl rfl (by simp only [List.map_toArray, List.map_cons, List.map_nil] <;> rfl) ?_
          with_reducible refine (K46.out c44 hl44 hm44 _).mono ?_
          rintro e w3 ⟨c46, hl46, hm46, rfl, hb⟩
          refine ⟨_, rfl, ?_⟩
          have U_10_2_3_5_7 := Aside0.mk (U_10_2_3_5.out.step hb)
          have A_10_2_3_5_7 := Aside0.mk (blk_below A_10_2_3_5.out hb)
          have B_10_2_3_5_7 := Aside0.mk (blk_below B_10_2_3_5.out hb)
          have C_10_2_3_5_7 := Aside0.mk (blk_below C_10_2_3_5.out hb)
          have G10_10_2_3_5_7 := Aside0.mk (blk_below G10_10_2_3_5.out hb)
          clear hb
          refine hK.out _ _ ⟨U_10_2_3_5_7.out, A_10_2_3_5_7.out, B_10_2_3_5_7.out, C_10_2_3_5_7.out⟩ (fun hHeld => ?_)
          clear hK K
          refine norm_ (a' := ?_) ?_ ?_
          rotate_left
          · show Act.put _ (some 46) _ = _
            simp only [Act.put, OpenRow.s1, OpenRow.s2, OpenRow.s3, i64_w, i32_w]
            rfl
          refine one_ (i := 8) (N := some 47) #[true, true, true, true, true, true, true, true, true, false, true, false] rfl rfl (by kernel_rfl) (by decide) (fun K hK => ?_)
          refine goes_ Try.func54 (by kernel_rfl) rfl #[.agg (arr .i64 (fe c46))] (by rfl) rfl rfl (by simp only [List.map_toArray, List.map_cons, List.map_nil] <;> rfl) ?_
          with_reducible refine (K47.out c46 hl46 hm46 _).mono ?_
          rintro e w3 ⟨c47, hl47, hm47, rfl, hb⟩
          refine ⟨_, rfl, ?_⟩
          have U_10_2_3_5_7_8 := Aside0.mk (U_10_2_3_5_7.out.step hb)
          have A_10_2_3_5_7_8 := Aside0.mk (blk_below A_10_2_3_5_7.out hb)
          have B_10_2_3_5_7_8 := Aside0.mk (blk_below B_10_2_3_5_7.out hb)
          have C_10_2_3_5_7_8 := Aside0.mk (blk_below C_10_2_3_5_7.out hb)
          have G10_10_2_3_5_7_8 := Aside0.mk (blk_below G10_10_2_3_5_7.out hb)
          clear hb
          refine hK.out _ _ ⟨U_10_2_3_5_7_8.out, A_10_2_3_5_7_8.out, B_10_2_3_5_7_8.out, C_10_2_3_5_7_8.out⟩ (fun hHeld => ?_)
          clear hK K
          refine norm_ (a' := ?_) ?_ ?_
          rotate_left
          · show Act.put _ (some 47) _ = _
            simp only [Act.put, OpenRow.s1, OpenRow.s2, OpenRow.s3, i64_w, i32_w]
            rfl
          refine one_ (i := 9) (N := some 48) #[true, true, true, true, true, true, true, true, true, true, true, false] rfl rfl (by kernel_rfl) (by decide) (fun K hK => ?_)
          refine goes_ Try.func51 (by kernel_rfl) rfl #[.agg (arr .i64 (fe c41)), .agg (arr .i64 (fe c47))] (by rfl) rfl rfl (by simp only [List.map_toArray, List.map_cons, List.map_nil] <;> rfl) ?_
          with_reducible refine (K48.out c41 hl41 hm41 c47 hl47 hm47 _).mono ?_
          rintro e w3 ⟨c48, hl48, hm48, rfl, hb⟩
          refine ⟨_, rfl, ?_⟩
          have U_10_2_3_5_7_8_9 := Aside0.mk (U_10_2_3_5_7_8.out.step hb)
          have A_10_2_3_5_7_8_9 := Aside0.mk (blk_below A_10_2_3_5_7_8.out hb)
          have B_10_2_3_5_7_8_9 := Aside0.mk (blk_below B_10_2_3_5_7_8.out hb)
          have C_10_2_3_5_7_8_9 := Aside0.mk (blk_below C_10_2_3_5_7_8.out hb)
          have G10_10_2_3_5_7_8_9 := Aside0.mk (blk_below G10_10_2_3_5_7_8.out hb)
          clear hb
          refine hK.out _ _ ⟨U_10_2_3_5_7_8_9.out, A_10_2_3_5_7_8_9.out, B_10_2_3_5_7_8_9.out, C_10_2_3_5_7_8_9.out⟩ (fun hHeld => ?_)
          clear hK K
          refine norm_ (a' := ?_) ?_ ?_
          rotate_left
          · show Act.put _ (some 48) _ = _
            simp only [Act.put, OpenRow.s1, OpenRow.s2, OpenRow.s3, i64_w, i32_w]
            rfl
          exact norm_ (by simp only [putAll, Act.put, List.setIfInBounds_toArray, List.set_cons_zero, List.set_cons_succ] <;> rfl) (hCont (c41, (c42, (c44, (c46, (c47, (c48, _)))))) _ ⟨U_10_2_3_5_7_8_9.out, A_10_2_3_5_7_8_9.out, B_10_2_3_5_7_8_9.out, C_10_2_3_5_7_8_9.out, G10_10_2_3_5_7_8_9.out, E10.out, M10_0.out, M10_1.out, M10_2.out, hl48, hm48⟩)
      rintro ⟨c41, ⟨c42, ⟨c44, ⟨c46, ⟨c47, ⟨c48, g10_⟩⟩⟩⟩⟩⟩ w9 ⟨hS0, hS1, hS2, hS3, hG10, hE10, hM10_0, hM10_1, hM10_2, hl48, hm48⟩
      have T9 := Aside0.mk hS0
      have Z9_1 := Aside0.mk hS1
      have Z9_2 := Aside0.mk hS2
      have Z9_3 := Aside0.mk hS3
      have GG10 := Aside0.mk hG10
      have EE10 := Aside0.mk hE10
      have MM10_0 := Aside0.mk hM10_0
      have MM10_1 := Aside0.mk hM10_1
      have MM10_2 := Aside0.mk hM10_2
      have hHeld := (And.intro hS0 (And.intro hS1 (And.intro hS2 hS3)))
      clear hG10 hE10 hM10_0 hM10_1 hM10_2
      refine norm_ (a' := ?_) ?_ ?_
      rotate_left
      · simp only [putAll, Act.put, List.setIfInBounds_toArray, List.set_cons_zero, List.set_cons_succ]
        rfl
      refine one_ (i := 11) (N := none) #[true, true, true, true, true, true, true, true, true, true, true, true] rfl rfl (by kernel_rfl) (by decide) (fun K hK => ?_)
      refine st_step (by rfl) rfl 41 (.tmp 9) (.tmp 48) rfl g10_ rfl rfl GG10.out (m := 16) (by kernel_rfl) (fe_length _) (by rw [fe_length]; rfl) ?_
      intro w6 h1 h2 h3 h4
      have X := Aside0.mk h1
      have V := Aside0.mk (St.other T9.out h2 h3 EE10.out)
      have A2 := Aside0.mk ((h2 _ MM10_0.out).trans Z9_1.out)
      have B2 := Aside0.mk ((h2 _ MM10_1.out).trans Z9_2.out)
      have C2 := Aside0.mk ((h2 _ MM10_2.out).trans Z9_3.out)
      clear h1 h2 h3 h4
      refine hK.out _ _ ⟨V.out, A2.out, B2.out, C2.out⟩ (fun hHeld => ?_)
      clear hK K
      refine done_ (by kernel_rfl) ?_
      clear T9 Z9_1 Z9_2 Z9_3 GG10 EE10 MM10_0 MM10_1 MM10_2 U A B C B2 K41 K42 K44 K46 K47 K48
      cases ok with
      | false =>
        have hf := Aside0.mk (F1.out rfl)
        go_wp2_with (first
          | ((with_reducible refine gate_dst (N := 50) rfl ?_); refine ld_arr rfl 41 (.tmp 9) rfl g10_ rfl X.out Try.underlying41 (m := 16) (by kernel_rfl) (fe_length _) ?_)
          | ((with_reducible refine (KR.out c48 hl48 hm48 _).mono ?_); rintro e w9 ⟨d, hld, hmd, rfl, hb⟩; have V1 := Aside0.mk (V.out.step hb); have A3 := Aside0.mk (blk_below A2.out hb); have C3 := Aside0.mk (blk_below C2.out hb); clear hb)
          | (refine st_arr rfl 41 (.tmp 10) (.tmp 52) rfl w9.heap.size (xs := fe d) rfl rfl (blk_new w9 (.cells (arr .i64 z16) 41)) (m := 16) (by kernel_rfl) (fe_length _) (by rw [fe_length]; rfl) ?_; intro w10 h1 h2 h4 h3; have XX := Aside0.mk h1; have V2 := Aside0.mk (St.other (V1.out.alloc (.cells (arr .i64 z16) 41)) h2 h3 V1.out.size); have A4 := Aside0.mk ((h2 _ (ne_of_blk A3.out)).trans (blk_alloc A3.out _)); have C4 := Aside0.mk ((h2 _ (ne_of_blk C3.out)).trans (blk_alloc C3.out _)); clear h1 h2 h3 h4)
          | (refine st_arr rfl 43 (.tmp 2) (.tmp 64) rfl w.heap.size (xs := zP) rfl rfl (V2.out.blk 0 rfl) (m := 64) (by kernel_rfl) rfl rfl ?_; intro w' h1 h2 h4 h3; have H1 := Aside0.mk h1; have VY := Aside0.mk (V2.out.row 0 rfl h1 h2 h3); clear h1 h2 h3 h4))
        exact bodyPost_ret (results_ct Try.results18 _ _ w.heap.size 43 _ (0, 0) _ rfl H1.out Try.underlying43 rfl (by kernel_rfl)) rfl ⟨PtPost_no hf.out, VY.out.below⟩
      | true =>
        by_cases hz : x0 = 0
        · rw [decide_eq_true hz] at KZ
          cases sg with
          | true =>
            have hf := Aside0.mk (F2.out hz rfl)
            obtain rfl : sv = 1 := eq_of_beq HSV.out
            clear hz
            go_wp2_with (first
              | ((with_reducible refine gate_dst (N := 50) rfl ?_); refine ld_arr rfl 41 (.tmp 9) rfl g10_ rfl X.out Try.underlying41 (m := 16) (by kernel_rfl) (fe_length _) ?_)
              | ((with_reducible refine (KR.out c48 hl48 hm48 _).mono ?_); rintro e w9 ⟨d, hld, hmd, rfl, hb⟩; have V1 := Aside0.mk (V.out.step hb); have A3 := Aside0.mk (blk_below A2.out hb); have C3 := Aside0.mk (blk_below C2.out hb); clear hb)
              | (refine st_arr rfl 41 (.tmp 10) (.tmp 52) rfl w9.heap.size (xs := fe d) rfl rfl (blk_new w9 (.cells (arr .i64 z16) 41)) (m := 16) (by kernel_rfl) (fe_length _) (by rw [fe_length]; rfl) ?_; intro w10 h1 h2 h4 h3; have XX := Aside0.mk h1; have V2 := Aside0.mk (St.other (V1.out.alloc (.cells (arr .i64 z16) 41)) h2 h3 V1.out.size); have A4 := Aside0.mk ((h2 _ (ne_of_blk A3.out)).trans (blk_alloc A3.out _)); have C4 := Aside0.mk ((h2 _ (ne_of_blk C3.out)).trans (blk_alloc C3.out _)); clear h1 h2 h3 h4)
              | ((with_reducible refine gate_dst (N := 57) rfl ?_); refine ld_arr_on (by rfl) 41 (.tmp 10) rfl w9.heap.size rfl XX.out Try.underlying41 (m := 16) (by kernel_rfl) (fe_length _) ?_)
              | ((with_reducible refine (KZ.out d hld hmd _).mono ?_); rintro e w11 ⟨rfl, hb⟩; have V3 := Aside0.mk (V2.out.step hb); have A5 := Aside0.mk (blk_below A4.out hb); have C5 := Aside0.mk (blk_below C4.out hb); have X5 := Aside0.mk (blk_below XX.out hb); clear hb)
              | (refine st_arr rfl 43 (.tmp 2) (.tmp 64) rfl w.heap.size (xs := zP) rfl rfl (V3.out.blk 0 rfl) (m := 64) (by kernel_rfl) rfl rfl ?_; intro w' h1 h2 h4 h3; have H1 := Aside0.mk h1; have VY := Aside0.mk (V3.out.row 0 rfl h1 h2 h3); clear h1 h2 h3 h4))
            exact bodyPost_ret (results_ct Try.results18 _ _ w.heap.size 43 _ (0, 0) _ rfl H1.out Try.underlying43 rfl (by kernel_rfl)) rfl ⟨PtPost_no hf.out, VY.out.below⟩
          | false =>
            have hf := Aside0.mk (F3.out rfl (fun h => by cases h.2))
            obtain rfl : sv = 0 := by have := HSV.out; rw [beq_eq_false_iff_ne] at this; omega
            have HPX := Aside0.mk (F6.out rfl)
            clear hz
            go_wp2_with (first
              | ((with_reducible refine gate_dst (N := 50) rfl ?_); refine ld_arr rfl 41 (.tmp 9) rfl g10_ rfl X.out Try.underlying41 (m := 16) (by kernel_rfl) (fe_length _) ?_)
              | ((with_reducible refine (KR.out c48 hl48 hm48 _).mono ?_); rintro e w9 ⟨d, hld, hmd, rfl, hb⟩; have V1 := Aside0.mk (V.out.step hb); have A3 := Aside0.mk (blk_below A2.out hb); have C3 := Aside0.mk (blk_below C2.out hb); clear hb)
              | (refine st_arr rfl 41 (.tmp 10) (.tmp 52) rfl w9.heap.size (xs := fe d) rfl rfl (blk_new w9 (.cells (arr .i64 z16) 41)) (m := 16) (by kernel_rfl) (fe_length _) (by rw [fe_length]; rfl) ?_; intro w10 h1 h2 h4 h3; have XX := Aside0.mk h1; have V2 := Aside0.mk (St.other (V1.out.alloc (.cells (arr .i64 z16) 41)) h2 h3 V1.out.size); have A4 := Aside0.mk ((h2 _ (ne_of_blk A3.out)).trans (blk_alloc A3.out _)); have C4 := Aside0.mk ((h2 _ (ne_of_blk C3.out)).trans (blk_alloc C3.out _)); clear h1 h2 h3 h4)
              | ((with_reducible refine gate_dst (N := 57) rfl ?_); refine ld_arr_on (by rfl) 41 (.tmp 10) rfl w9.heap.size rfl XX.out Try.underlying41 (m := 16) (by kernel_rfl) (fe_length _) ?_)
              | ((with_reducible refine (KZ.out d hld hmd _).mono ?_); rintro e w11 ⟨rfl, hb⟩; have V3 := Aside0.mk (V2.out.step hb); have A5 := Aside0.mk (blk_below A4.out hb); have C5 := Aside0.mk (blk_below C4.out hb); have X5 := Aside0.mk (blk_below XX.out hb); clear hb))
            have VW := Aside0.mk V3.out.drew
            have AW := Aside0.mk (blk_drew A5.out)
            have CW := Aside0.mk (blk_drew C5.out)
            have XW := Aside0.mk (blk_drew X5.out)
            generalize w9.heap.size = g10 at *
            clear V V1 V2 V3 A2 A3 A4 A5 C2 C3 C4 C5 X XX X5
            refine start_ (n := 9) (S := fun w' => St w [⟨43, .i64, zP⟩] w' ∧ w'.heap[g6]? = some (.cells (arr .i64 (fe y)) 41 (0, 0)) ∧ w'.heap[g8]? = some (.cells (arr .i64 (fe 1)) 41 (0, 0)) ∧ w'.heap[g10]? = some (.cells (arr .i64 (fe d)) 41 (0, 0))) (ds := [7]) #[false, false, false, false, false, false, false, false, false] (by kernel_rfl) rfl rfl ⟨VW.out, AW.out, CW.out, XW.out⟩ (fun hHeld => ?_)
            refine take_ (i := 0) (N := some 70) (v := ?_) (a' := ?_) #[true, false, false, false, false, false, false, false, false] rfl rfl (by kernel_rfl) (fun _ _ _ h => h) (Or.inl ⟨by rfl, ?_⟩) hHeld ?_ ?_
            rotate_left
            · rintro w' ⟨s0, s1, s2, s3⟩
              refine (run_ld 41 (.tmp 10) (by rfl) g10 (by rfl) s3 Try.underlying41 (m := 16) (by kernel_rfl) (fe_length _)).trans ?_; with_reducible rfl
            rotate_left
            · simp only [Act.put, OpenRow.s1, OpenRow.s2, OpenRow.s3, i64_w, i32_w]; rfl
            refine take_ (i := 1) (N := some 71) (v := ?_) (a' := ?_) #[true, true, false, false, false, false, false, false, false] rfl rfl (by kernel_rfl) (fun _ _ _ h => h) (Or.inl ⟨by rfl, ?_⟩) hHeld ?_ ?_
            rotate_left
            · rintro w' ⟨s0, s1, s2, s3⟩
              refine (run_ld 41 (.tmp 6) (by rfl) g6 (by rfl) s1 Try.underlying41 (m := 16) (by kernel_rfl) (fe_length _)).trans ?_; with_reducible rfl
            rotate_left
            · simp only [Act.put, OpenRow.s1, OpenRow.s2, OpenRow.s3, i64_w, i32_w]; rfl
            refine take_ (i := 2) (N := some 72) (v := ?_) (a' := ?_) #[true, true, true, false, false, false, false, false, false] rfl rfl (by kernel_rfl) (fun _ _ _ h => h) (Or.inl ⟨by rfl, ?_⟩) hHeld ?_ ?_
            rotate_left
            · rintro w' ⟨s0, s1, s2, s3⟩
              refine (run_ld 41 (.tmp 8) (by rfl) g8 (by rfl) s2 Try.underlying41 (m := 16) (by kernel_rfl) (fe_length _)).trans ?_; with_reducible rfl
            rotate_left
            · simp only [Act.put, OpenRow.s1, OpenRow.s2, OpenRow.s3, i64_w, i32_w]; rfl
            refine take_ (i := 3) (N := some 73) (v := ?_) (a' := ?_) #[true, true, true, true, false, false, false, false, false] rfl rfl (by kernel_rfl) (fun _ _ _ h => h) (Or.inl ⟨by rfl, ?_⟩) hHeld ?_ ?_
            rotate_left
            · rintro w' ⟨s0, s1, s2, s3⟩
              refine (run_ld 41 (.tmp 10) (by rfl) g10 (by rfl) s3 Try.underlying41 (m := 16) (by kernel_rfl) (fe_length _)).trans ?_; with_reducible rfl
            rotate_left
            · simp only [Act.put, OpenRow.s1, OpenRow.s2, OpenRow.s3, i64_w, i32_w]; rfl
            refine take_ (i := 4) (N := some 74) (v := ?_) (a' := ?_) #[true, true, true, true, true, false, false, false, false] rfl rfl (by kernel_rfl) (fun _ _ _ h => h) (Or.inl ⟨by rfl, ?_⟩) hHeld ?_ ?_
            rotate_left
            · rintro w' ⟨s0, s1, s2, s3⟩
              refine (run_ld 41 (.tmp 6) (by rfl) g6 (by rfl) s1 Try.underlying41 (m := 16) (by kernel_rfl) (fe_length _)).trans ?_; with_reducible rfl
            rotate_left
            · simp only [Act.put, OpenRow.s1, OpenRow.s2, OpenRow.s3, i64_w, i32_w]; rfl
            refine one_ (i := 5) (N := some 75) #[true, true, true, true, true, true, false, false, false] rfl rfl (by kernel_rfl) (by decide) (fun K hK => ?_)
            refine goes_ Try.func51 (by kernel_rfl) rfl #[.agg (arr .i64 (fe d)), .agg (arr .i64 (fe y))] (by rfl) rfl rfl (by simp only [List.map_toArray, List.map_cons, List.map_nil] <;> rfl) ?_
            with_reducible refine (KT.out x0 d hld hmd _).mono ?_
            rintro e w3 ⟨ct, hlt, hmt, rfl, hb⟩
            refine ⟨_, rfl, ?_⟩
            have VT := Aside0.mk (VW.out.step hb)
            have AT := Aside0.mk (blk_below AW.out hb)
            have CT := Aside0.mk (blk_below CW.out hb)
            have XT := Aside0.mk (blk_below XW.out hb)
            clear hb
            refine hK.out _ _ ⟨VT.out, AT.out, CT.out, XT.out⟩ (fun hHeld => ?_)
            clear hK K
            refine norm_ (a' := ?_) ?_ ?_
            rotate_left
            · show Act.put _ (some 75) _ = _
              simp only [Act.put, OpenRow.s1, OpenRow.s2, OpenRow.s3, i64_w, i32_w]
              rfl
            refine pure_ (i := 6) (N := some 76) (v := ?_) (a' := ?_) #[true, true, true, true, true, true, true, false, false] rfl rfl (by kernel_rfl) (fun _ _ _ h => h) (Or.inl ⟨by rfl, ?_⟩) ?_ ?_
            rotate_left
            · intro w'
              refine (run_bd rfl _ (by simp only [List.map_toArray, List.map_cons, List.map_nil] <;> rfl) (build_fe _ _ _ _ _)).trans ?_; with_reducible rfl
            rotate_left
            · simp only [Act.put, OpenRow.s1, OpenRow.s2, OpenRow.s3, i64_w, i32_w]; rfl
            refine last_ (i := 7) (N := none) #[true, true, true, true, true, true, true, true, false] rfl rfl (by kernel_rfl) (by decide) (fun K hK => ?_)
            refine st_step (by rfl) rfl 43 (.tmp 2) (.tmp 76) rfl w.heap.size (xs := feP d y 1 ct) rfl rfl (VT.out.blk 0 rfl) (m := 64) (by kernel_rfl) (feP_length _ _ _ _) (by rw [feP_length]; rfl) ?_
            intro w6 h1 h2 h3 h4
            have H1 := Aside0.mk h1
            have VY := Aside0.mk (VT.out.row 0 rfl h1 h2 h3)
            clear h1 h2 h3 h4
            refine hK.out _ _ ?_
            clear hK K
            refine pure_ (i := 8) (N := some 3) (v := ?_) (a' := ?_) #[true, true, true, true, true, true, true, true, true] rfl rfl (by kernel_rfl) (fun _ _ _ h => h) (Or.inl ⟨by rfl, ?_⟩) ?_ ?_
            rotate_left
            · intro w'; go_simp; with_reducible rfl
            rotate_left
            · simp only [Act.put, OpenRow.s1, OpenRow.s2, OpenRow.s3, i64_w, i32_w]; rfl
            refine done_ (by kernel_rfl) ?_
            go_wp2
            exact bodyPost_ret (results_ct Try.results18 _ _ w.heap.size 43 _ (0, 0) _ rfl H1.out Try.underlying43 rfl (by rw [arr_size, feP_length]; kernel_rfl)) rfl ⟨PtPost_yes hf.out x0 y d ct HPX.out HPY.out hld hlt hmd hmt, VY.out.below⟩
        · rw [decide_eq_false hz] at KZ
          cases sg with
          | true =>
            have hf := Aside0.mk (F3.out rfl (fun h => hz h.1))
            obtain rfl : sv = 1 := eq_of_beq HSV.out
            have HPX := Aside0.mk (F5.out rfl)
            clear hz F5
            generalize (PP - x0) % PP = x1 at *
            go_wp2_with (first
              | ((with_reducible refine gate_dst (N := 50) rfl ?_); refine ld_arr rfl 41 (.tmp 9) rfl g10_ rfl X.out Try.underlying41 (m := 16) (by kernel_rfl) (fe_length _) ?_)
              | ((with_reducible refine (KR.out c48 hl48 hm48 _).mono ?_); rintro e w9 ⟨d, hld, hmd, rfl, hb⟩; have V1 := Aside0.mk (V.out.step hb); have A3 := Aside0.mk (blk_below A2.out hb); have C3 := Aside0.mk (blk_below C2.out hb); clear hb)
              | (refine st_arr rfl 41 (.tmp 10) (.tmp 52) rfl w9.heap.size (xs := fe d) rfl rfl (blk_new w9 (.cells (arr .i64 z16) 41)) (m := 16) (by kernel_rfl) (fe_length _) (by rw [fe_length]; rfl) ?_; intro w10 h1 h2 h4 h3; have XX := Aside0.mk h1; have V2 := Aside0.mk (St.other (V1.out.alloc (.cells (arr .i64 z16) 41)) h2 h3 V1.out.size); have A4 := Aside0.mk ((h2 _ (ne_of_blk A3.out)).trans (blk_alloc A3.out _)); have C4 := Aside0.mk ((h2 _ (ne_of_blk C3.out)).trans (blk_alloc C3.out _)); clear h1 h2 h3 h4)
              | ((with_reducible refine gate_dst (N := 57) rfl ?_); refine ld_arr_on (by rfl) 41 (.tmp 10) rfl w9.heap.size rfl XX.out Try.underlying41 (m := 16) (by kernel_rfl) (fe_length _) ?_)
              | ((with_reducible refine (KZ.out d hld hmd _).mono ?_); rintro e w11 ⟨rfl, hb⟩; have V3 := Aside0.mk (V2.out.step hb); have A5 := Aside0.mk (blk_below A4.out hb); have C5 := Aside0.mk (blk_below C4.out hb); have X5 := Aside0.mk (blk_below XX.out hb); clear hb)
              | ((with_reducible refine gate_dst (N := 68) rfl ?_); refine ld_arr rfl 41 (.tmp 10) rfl w9.heap.size rfl X5.out Try.underlying41 (m := 16) (by kernel_rfl) (fe_length _) ?_)
              | ((with_reducible refine (KU.out d hld hmd _).mono ?_); rintro e w12 ⟨x, hlx, hmx, rfl, hb⟩; have V4 := Aside0.mk (V3.out.step hb); have A6 := Aside0.mk (blk_below A5.out hb); have C6 := Aside0.mk (blk_below C5.out hb); have X6 := Aside0.mk (blk_below X5.out hb); clear hb)
              | (refine st_arr rfl 41 (.tmp 10) (.tmp 69) rfl w9.heap.size (xs := fe x) rfl rfl X6.out (m := 16) (by kernel_rfl) (fe_length _) (by rw [fe_length, fe_length]) ?_; intro w13 h1 h2 h4 h3; have X7 := Aside0.mk h1; have V7 := Aside0.mk (St.other V4.out h2 h3 V1.out.size); have A7 := Aside0.mk ((h2 _ (ne_of_blk A3.out)).trans A6.out); have C7 := Aside0.mk ((h2 _ (ne_of_blk C3.out)).trans C6.out); clear h1 h2 h3 h4))
            have VW := Aside0.mk V7.out.drew
            have AW := Aside0.mk (blk_drew A7.out)
            have CW := Aside0.mk (blk_drew C7.out)
            have XW := Aside0.mk (blk_drew X7.out)
            generalize w9.heap.size = g10 at *
            clear V V1 V2 V3 A2 A3 A4 A5 C2 C3 C4 C5 X XX X5 V4 V7 A6 A7 C6 C7 X6 X7
            refine start_ (n := 9) (S := fun w' => St w [⟨43, .i64, zP⟩] w' ∧ w'.heap[g6]? = some (.cells (arr .i64 (fe y)) 41 (0, 0)) ∧ w'.heap[g8]? = some (.cells (arr .i64 (fe 1)) 41 (0, 0)) ∧ w'.heap[g10]? = some (.cells (arr .i64 (fe x)) 41 (0, 0))) (ds := [7]) #[false, false, false, false, false, false, false, false, false] (by kernel_rfl) rfl rfl ⟨VW.out, AW.out, CW.out, XW.out⟩ (fun hHeld => ?_)
            refine take_ (i := 0) (N := some 70) (v := ?_) (a' := ?_) #[true, false, false, false, false, false, false, false, false] rfl rfl (by kernel_rfl) (fun _ _ _ h => h) (Or.inl ⟨by rfl, ?_⟩) hHeld ?_ ?_
            rotate_left
            · rintro w' ⟨s0, s1, s2, s3⟩
              refine (run_ld 41 (.tmp 10) (by rfl) g10 (by rfl) s3 Try.underlying41 (m := 16) (by kernel_rfl) (fe_length _)).trans ?_; with_reducible rfl
            rotate_left
            · simp only [Act.put, OpenRow.s1, OpenRow.s2, OpenRow.s3, i64_w, i32_w]; rfl
            refine take_ (i := 1) (N := some 71) (v := ?_) (a' := ?_) #[true, true, false, false, false, false, false, false, false] rfl rfl (by kernel_rfl) (fun _ _ _ h => h) (Or.inl ⟨by rfl, ?_⟩) hHeld ?_ ?_
            rotate_left
            · rintro w' ⟨s0, s1, s2, s3⟩
              refine (run_ld 41 (.tmp 6) (by rfl) g6 (by rfl) s1 Try.underlying41 (m := 16) (by kernel_rfl) (fe_length _)).trans ?_; with_reducible rfl
            rotate_left
            · simp only [Act.put, OpenRow.s1, OpenRow.s2, OpenRow.s3, i64_w, i32_w]; rfl
            refine take_ (i := 2) (N := some 72) (v := ?_) (a' := ?_) #[true, true, true, false, false, false, false, false, false] rfl rfl (by kernel_rfl) (fun _ _ _ h => h) (Or.inl ⟨by rfl, ?_⟩) hHeld ?_ ?_
            rotate_left
            · rintro w' ⟨s0, s1, s2, s3⟩
              refine (run_ld 41 (.tmp 8) (by rfl) g8 (by rfl) s2 Try.underlying41 (m := 16) (by kernel_rfl) (fe_length _)).trans ?_; with_reducible rfl
            rotate_left
            · simp only [Act.put, OpenRow.s1, OpenRow.s2, OpenRow.s3, i64_w, i32_w]; rfl
            refine take_ (i := 3) (N := some 73) (v := ?_) (a' := ?_) #[true, true, true, true, false, false, false, false, false] rfl rfl (by kernel_rfl) (fun _ _ _ h => h) (Or.inl ⟨by rfl, ?_⟩) hHeld ?_ ?_
            rotate_left
            · rintro w' ⟨s0, s1, s2, s3⟩
              refine (run_ld 41 (.tmp 10) (by rfl) g10 (by rfl) s3 Try.underlying41 (m := 16) (by kernel_rfl) (fe_length _)).trans ?_; with_reducible rfl
            rotate_left
            · simp only [Act.put, OpenRow.s1, OpenRow.s2, OpenRow.s3, i64_w, i32_w]; rfl
            refine take_ (i := 4) (N := some 74) (v := ?_) (a' := ?_) #[true, true, true, true, true, false, false, false, false] rfl rfl (by kernel_rfl) (fun _ _ _ h => h) (Or.inl ⟨by rfl, ?_⟩) hHeld ?_ ?_
            rotate_left
            · rintro w' ⟨s0, s1, s2, s3⟩
              refine (run_ld 41 (.tmp 6) (by rfl) g6 (by rfl) s1 Try.underlying41 (m := 16) (by kernel_rfl) (fe_length _)).trans ?_; with_reducible rfl
            rotate_left
            · simp only [Act.put, OpenRow.s1, OpenRow.s2, OpenRow.s3, i64_w, i32_w]; rfl
            refine one_ (i := 5) (N := some 75) #[true, true, true, true, true, true, false, false, false] rfl rfl (by kernel_rfl) (by decide) (fun K hK => ?_)
            refine goes_ Try.func51 (by kernel_rfl) rfl #[.agg (arr .i64 (fe x)), .agg (arr .i64 (fe y))] (by rfl) rfl rfl (by simp only [List.map_toArray, List.map_cons, List.map_nil] <;> rfl) ?_
            with_reducible refine (KT.out x1 x hlx hmx _).mono ?_
            rintro e w3 ⟨ct, hlt, hmt, rfl, hb⟩
            refine ⟨_, rfl, ?_⟩
            have VT := Aside0.mk (VW.out.step hb)
            have AT := Aside0.mk (blk_below AW.out hb)
            have CT := Aside0.mk (blk_below CW.out hb)
            have XT := Aside0.mk (blk_below XW.out hb)
            clear hb
            refine hK.out _ _ ⟨VT.out, AT.out, CT.out, XT.out⟩ (fun hHeld => ?_)
            clear hK K
            refine norm_ (a' := ?_) ?_ ?_
            rotate_left
            · show Act.put _ (some 75) _ = _
              simp only [Act.put, OpenRow.s1, OpenRow.s2, OpenRow.s3, i64_w, i32_w]
              rfl
            refine pure_ (i := 6) (N := some 76) (v := ?_) (a' := ?_) #[true, true, true, true, true, true, true, false, false] rfl rfl (by kernel_rfl) (fun _ _ _ h => h) (Or.inl ⟨by rfl, ?_⟩) ?_ ?_
            rotate_left
            · intro w'
              refine (run_bd rfl _ (by simp only [List.map_toArray, List.map_cons, List.map_nil] <;> rfl) (build_fe _ _ _ _ _)).trans ?_; with_reducible rfl
            rotate_left
            · simp only [Act.put, OpenRow.s1, OpenRow.s2, OpenRow.s3, i64_w, i32_w]; rfl
            refine last_ (i := 7) (N := none) #[true, true, true, true, true, true, true, true, false] rfl rfl (by kernel_rfl) (by decide) (fun K hK => ?_)
            refine st_step (by rfl) rfl 43 (.tmp 2) (.tmp 76) rfl w.heap.size (xs := feP x y 1 ct) rfl rfl (VT.out.blk 0 rfl) (m := 64) (by kernel_rfl) (feP_length _ _ _ _) (by rw [feP_length]; rfl) ?_
            intro w6 h1 h2 h3 h4
            have H1 := Aside0.mk h1
            have VY := Aside0.mk (VT.out.row 0 rfl h1 h2 h3)
            clear h1 h2 h3 h4
            refine hK.out _ _ ?_
            clear hK K
            refine pure_ (i := 8) (N := some 3) (v := ?_) (a' := ?_) #[true, true, true, true, true, true, true, true, true] rfl rfl (by kernel_rfl) (fun _ _ _ h => h) (Or.inl ⟨by rfl, ?_⟩) ?_ ?_
            rotate_left
            · intro w'; go_simp; with_reducible rfl
            rotate_left
            · simp only [Act.put, OpenRow.s1, OpenRow.s2, OpenRow.s3, i64_w, i32_w]; rfl
            refine done_ (by kernel_rfl) ?_
            go_wp2
            exact bodyPost_ret (results_ct Try.results18 _ _ w.heap.size 43 _ (0, 0) _ rfl H1.out Try.underlying43 rfl (by rw [arr_size, feP_length]; kernel_rfl)) rfl ⟨PtPost_yes hf.out x1 y x ct HPX.out HPY.out hlx hlt hmx hmt, VY.out.below⟩
          | false =>
            have hf := Aside0.mk (F3.out rfl (fun h => hz h.1))
            obtain rfl : sv = 0 := by have := HSV.out; rw [beq_eq_false_iff_ne] at this; omega
            have HPX := Aside0.mk (F6.out rfl)
            clear hz
            go_wp2_with (first
              | ((with_reducible refine gate_dst (N := 50) rfl ?_); refine ld_arr rfl 41 (.tmp 9) rfl g10_ rfl X.out Try.underlying41 (m := 16) (by kernel_rfl) (fe_length _) ?_)
              | ((with_reducible refine (KR.out c48 hl48 hm48 _).mono ?_); rintro e w9 ⟨d, hld, hmd, rfl, hb⟩; have V1 := Aside0.mk (V.out.step hb); have A3 := Aside0.mk (blk_below A2.out hb); have C3 := Aside0.mk (blk_below C2.out hb); clear hb)
              | (refine st_arr rfl 41 (.tmp 10) (.tmp 52) rfl w9.heap.size (xs := fe d) rfl rfl (blk_new w9 (.cells (arr .i64 z16) 41)) (m := 16) (by kernel_rfl) (fe_length _) (by rw [fe_length]; rfl) ?_; intro w10 h1 h2 h4 h3; have XX := Aside0.mk h1; have V2 := Aside0.mk (St.other (V1.out.alloc (.cells (arr .i64 z16) 41)) h2 h3 V1.out.size); have A4 := Aside0.mk ((h2 _ (ne_of_blk A3.out)).trans (blk_alloc A3.out _)); have C4 := Aside0.mk ((h2 _ (ne_of_blk C3.out)).trans (blk_alloc C3.out _)); clear h1 h2 h3 h4)
              | ((with_reducible refine gate_dst (N := 57) rfl ?_); refine ld_arr_on (by rfl) 41 (.tmp 10) rfl w9.heap.size rfl XX.out Try.underlying41 (m := 16) (by kernel_rfl) (fe_length _) ?_)
              | ((with_reducible refine (KZ.out d hld hmd _).mono ?_); rintro e w11 ⟨rfl, hb⟩; have V3 := Aside0.mk (V2.out.step hb); have A5 := Aside0.mk (blk_below A4.out hb); have C5 := Aside0.mk (blk_below C4.out hb); have X5 := Aside0.mk (blk_below XX.out hb); clear hb))
            have VW := Aside0.mk V3.out.drew
            have AW := Aside0.mk (blk_drew A5.out)
            have CW := Aside0.mk (blk_drew C5.out)
            have XW := Aside0.mk (blk_drew X5.out)
            generalize w9.heap.size = g10 at *
            clear V V1 V2 V3 A2 A3 A4 A5 C2 C3 C4 C5 X XX X5
            refine start_ (n := 9) (S := fun w' => St w [⟨43, .i64, zP⟩] w' ∧ w'.heap[g6]? = some (.cells (arr .i64 (fe y)) 41 (0, 0)) ∧ w'.heap[g8]? = some (.cells (arr .i64 (fe 1)) 41 (0, 0)) ∧ w'.heap[g10]? = some (.cells (arr .i64 (fe d)) 41 (0, 0))) (ds := [7]) #[false, false, false, false, false, false, false, false, false] (by kernel_rfl) rfl rfl ⟨VW.out, AW.out, CW.out, XW.out⟩ (fun hHeld => ?_)
            refine take_ (i := 0) (N := some 70) (v := ?_) (a' := ?_) #[true, false, false, false, false, false, false, false, false] rfl rfl (by kernel_rfl) (fun _ _ _ h => h) (Or.inl ⟨by rfl, ?_⟩) hHeld ?_ ?_
            rotate_left
            · rintro w' ⟨s0, s1, s2, s3⟩
              refine (run_ld 41 (.tmp 10) (by rfl) g10 (by rfl) s3 Try.underlying41 (m := 16) (by kernel_rfl) (fe_length _)).trans ?_; with_reducible rfl
            rotate_left
            · simp only [Act.put, OpenRow.s1, OpenRow.s2, OpenRow.s3, i64_w, i32_w]; rfl
            refine take_ (i := 1) (N := some 71) (v := ?_) (a' := ?_) #[true, true, false, false, false, false, false, false, false] rfl rfl (by kernel_rfl) (fun _ _ _ h => h) (Or.inl ⟨by rfl, ?_⟩) hHeld ?_ ?_
            rotate_left
            · rintro w' ⟨s0, s1, s2, s3⟩
              refine (run_ld 41 (.tmp 6) (by rfl) g6 (by rfl) s1 Try.underlying41 (m := 16) (by kernel_rfl) (fe_length _)).trans ?_; with_reducible rfl
            rotate_left
            · simp only [Act.put, OpenRow.s1, OpenRow.s2, OpenRow.s3, i64_w, i32_w]; rfl
            refine take_ (i := 2) (N := some 72) (v := ?_) (a' := ?_) #[true, true, true, false, false, false, false, false, false] rfl rfl (by kernel_rfl) (fun _ _ _ h => h) (Or.inl ⟨by rfl, ?_⟩) hHeld ?_ ?_
            rotate_left
            · rintro w' ⟨s0, s1, s2, s3⟩
              refine (run_ld 41 (.tmp 8) (by rfl) g8 (by rfl) s2 Try.underlying41 (m := 16) (by kernel_rfl) (fe_length _)).trans ?_; with_reducible rfl
            rotate_left
            · simp only [Act.put, OpenRow.s1, OpenRow.s2, OpenRow.s3, i64_w, i32_w]; rfl
            refine take_ (i := 3) (N := some 73) (v := ?_) (a' := ?_) #[true, true, true, true, false, false, false, false, false] rfl rfl (by kernel_rfl) (fun _ _ _ h => h) (Or.inl ⟨by rfl, ?_⟩) hHeld ?_ ?_
            rotate_left
            · rintro w' ⟨s0, s1, s2, s3⟩
              refine (run_ld 41 (.tmp 10) (by rfl) g10 (by rfl) s3 Try.underlying41 (m := 16) (by kernel_rfl) (fe_length _)).trans ?_; with_reducible rfl
            rotate_left
            · simp only [Act.put, OpenRow.s1, OpenRow.s2, OpenRow.s3, i64_w, i32_w]; rfl
            refine take_ (i := 4) (N := some 74) (v := ?_) (a' := ?_) #[true, true, true, true, true, false, false, false, false] rfl rfl (by kernel_rfl) (fun _ _ _ h => h) (Or.inl ⟨by rfl, ?_⟩) hHeld ?_ ?_
            rotate_left
            · rintro w' ⟨s0, s1, s2, s3⟩
              refine (run_ld 41 (.tmp 6) (by rfl) g6 (by rfl) s1 Try.underlying41 (m := 16) (by kernel_rfl) (fe_length _)).trans ?_; with_reducible rfl
            rotate_left
            · simp only [Act.put, OpenRow.s1, OpenRow.s2, OpenRow.s3, i64_w, i32_w]; rfl
            refine one_ (i := 5) (N := some 75) #[true, true, true, true, true, true, false, false, false] rfl rfl (by kernel_rfl) (by decide) (fun K hK => ?_)
            refine goes_ Try.func51 (by kernel_rfl) rfl #[.agg (arr .i64 (fe d)), .agg (arr .i64 (fe y))] (by rfl) rfl rfl (by simp only [List.map_toArray, List.map_cons, List.map_nil] <;> rfl) ?_
            with_reducible refine (KT.out x0 d hld hmd _).mono ?_
            rintro e w3 ⟨ct, hlt, hmt, rfl, hb⟩
            refine ⟨_, rfl, ?_⟩
            have VT := Aside0.mk (VW.out.step hb)
            have AT := Aside0.mk (blk_below AW.out hb)
            have CT := Aside0.mk (blk_below CW.out hb)
            have XT := Aside0.mk (blk_below XW.out hb)
            clear hb
            refine hK.out _ _ ⟨VT.out, AT.out, CT.out, XT.out⟩ (fun hHeld => ?_)
            clear hK K
            refine norm_ (a' := ?_) ?_ ?_
            rotate_left
            · show Act.put _ (some 75) _ = _
              simp only [Act.put, OpenRow.s1, OpenRow.s2, OpenRow.s3, i64_w, i32_w]
              rfl
            refine pure_ (i := 6) (N := some 76) (v := ?_) (a' := ?_) #[true, true, true, true, true, true, true, false, false] rfl rfl (by kernel_rfl) (fun _ _ _ h => h) (Or.inl ⟨by rfl, ?_⟩) ?_ ?_
            rotate_left
            · intro w'
              refine (run_bd rfl _ (by simp only [List.map_toArray, List.map_cons, List.map_nil] <;> rfl) (build_fe _ _ _ _ _)).trans ?_; with_reducible rfl
            rotate_left
            · simp only [Act.put, OpenRow.s1, OpenRow.s2, OpenRow.s3, i64_w, i32_w]; rfl
            refine last_ (i := 7) (N := none) #[true, true, true, true, true, true, true, true, false] rfl rfl (by kernel_rfl) (by decide) (fun K hK => ?_)
            refine st_step (by rfl) rfl 43 (.tmp 2) (.tmp 76) rfl w.heap.size (xs := feP d y 1 ct) rfl rfl (VT.out.blk 0 rfl) (m := 64) (by kernel_rfl) (feP_length _ _ _ _) (by rw [feP_length]; rfl) ?_
            intro w6 h1 h2 h3 h4
            have H1 := Aside0.mk h1
            have VY := Aside0.mk (VT.out.row 0 rfl h1 h2 h3)
            clear h1 h2 h3 h4
            refine hK.out _ _ ?_
            clear hK K
            refine pure_ (i := 8) (N := some 3) (v := ?_) (a' := ?_) #[true, true, true, true, true, true, true, true, true] rfl rfl (by kernel_rfl) (fun _ _ _ h => h) (Or.inl ⟨by rfl, ?_⟩) ?_ ?_
            rotate_left
            · intro w'; go_simp; with_reducible rfl
            rotate_left
            · simp only [Act.put, OpenRow.s1, OpenRow.s2, OpenRow.s3, i64_w, i32_w]; rfl
            refine done_ (by kernel_rfl) ?_
            go_wp2
            exact bodyPost_ret (results_ct Try.results18 _ _ w.heap.size 43 _ (0, 0) _ rfl H1.out Try.underlying43 rfl (by rw [arr_size, feP_length]; kernel_rfl)) rfl ⟨PtPost_yes hf.out x0 y d ct HPX.out HPY.out hld hlt hmd hmt, VY.out.below⟩
    · have he' := Bool.eq_false_iff.mpr he
      have hf := Aside0.mk (okP_el he')
      rw [he'] at HIE
      clear he he' hl
      go_enter Try.func18, Try.ntmps18
      go_wp2_with (first
        | ((with_reducible refine gate_dst (N := 16) rfl ?_); refine Kd.R_lit (Kd.int .u8) _ 5 ?hg (N := 16) ?hd (xs := []) (inner := []) (ok := fun _ => True) (okp := fun _ => True) ?hr ?hp (fun _ hk => hk) trivial (Below.refl _ _) (Nat.le_refl _) (by simp) ?_; (case hd => rfl); (case hg => rfl); (case hr => first | (go_simp; done) | (go_simp; rfl)); (case hp => exact Reps.none _ _); intro v126 w5 ho6 hb hg_ hnew_; clear hg_ hnew_; have HO5 : Aside0 ((Kd.int .u8).R 5 w5 Wa.heap.size (fun _ => True) v126 []) := ⟨(by rw [HWa.out]; exact ho6)⟩; have HB5 : Aside0 (Below Wa.heap.size Wa w5) := ⟨(by rw [HWa.out]; exact hb)⟩; clear hb ho6)
        | ((with_reducible refine gate_builtin (b := .append) (xs := #[.tmp 16, .tmp 17]) rfl ?_); at_builtin; refine Kd.R_append_rows (Kd.int .u8) (w0 := Wa) Wa.heap.size rfl (.tmp 16) (.tmp 17) 22 5 (.int .u8 0) 1 rfl Try.underlying22 INFO.out rfl (by decide) (by decide) v126 [] l _ _ _ (fun _ => True) (fun _ => False) rfl rfl ?aO ?aR (fun _ _ h => h) (fun _ h => h.elim) ?aF ?aB ?aS ?aL ?_; (case aR => exact (Kd.C_below HRa.out HB5.out)); (case aB => exact HB5.out); (case aF => exact (fun _ _ => trivial)); (case aO => exact HO5.out); (case aS => exact (below_size HB5.out)); (case aL => have := HLW.out; simp only [List.length_nil, Nat.zero_add]; omega); intro v129 w1 hR hb hg hat; rw [← Ny.out] at hR; obtain ⟨go, co, eo, gb, gl, _, HGc⟩ := Kd.R_form hR (by omega); rw [HLW.out] at eo; subst eo; have GB := Aside0.mk gb; rw [HWa.out, World.size_alloc] at GB; have S1 := Aside0.mk (S.out.stepB (by have := HWs.out; simp only [List.nil_append, List.length_singleton, ← this]; exact hb)); have hx0 : w1.cell? ⟨go, 31, none⟩ = some (.int .u8 b) := (by rw [HBD.out]; exact (Kd.R_celln 0 hR (31 : Int) (by omega) (by omega)).1); have hf0 : w1.frozen? ⟨go, 31, none⟩ = false := (Kd.R_celln 0 hR (31 : Int) (by omega) (by omega)).2; have HP31 : Aside0 ((Kd.int .u8).R 5 (w1.setCell ⟨go, 31, none⟩ (.int .u8 lo)) Wa.heap.size (fun _ => True) (.slice (some ⟨go, 0, none⟩) 32 co) (lowB l)) := ⟨(by rw [← HLS.out]; exact (Kd.R_putg hR (31 : Int) lo).1)⟩; have HC3 := Aside0.mk (Kd.R_reads' HP31.out).2.2; have HCO := Aside0.mk (Kd.R_reads' HP31.out).2.1; rw [lowB_length, HLW.out] at HC3; clear hb hR gb gl HGc hg hat)
        | ((with_reducible refine (HIE.out _ _ _ HC3.out HCO.out).mono ?_); rintro e w2 ⟨rfl, hb⟩; have S2 := Aside0.mk ((St_far S1.out go 31 _ GB.out).step hb); have HC4 := Aside0.mk (Kd.C_below HC3.out hb); clear hb)
        | (refine st_arr rfl 43 (.tmp 2) (.tmp 32) rfl w.heap.size (xs := zP) rfl rfl (S2.out.blk 0 rfl) (m := 64) (by kernel_rfl) rfl rfl ?_; intro w' h1 h2 h4 h3; have H1 := Aside0.mk h1; have VY := Aside0.mk (S2.out.row 0 rfl h1 h2 h3); clear h1 h2 h3 h4))
      exact bodyPost_ret (results_ct Try.results18 _ _ w.heap.size 43 _ (0, 0) _ rfl H1.out Try.underlying43 rfl (by kernel_rfl)) rfl ⟨PtPost_no hf.out, VY.out.below⟩
  · have hll : ¬ (l.length : Int) = 32 := by omega
    have hf := Aside0.mk (okP_len hl)
    go_enter Try.func18, Try.ntmps18
    go_wp2_with (first
      | (refine st_arr rfl 43 (.tmp 2) (.tmp 15) rfl w.heap.size (xs := zP) rfl rfl (S.out.blk 0 rfl) (m := 64) (by kernel_rfl) rfl rfl ?_; intro w' h1 h2 h4 h3; have H1 := Aside0.mk h1; have VY := Aside0.mk (S.out.row 0 rfl h1 h2 h3); clear h1 h2 h3 h4))
    exact bodyPost_ret (results_ct Try.results18 _ _ w.heap.size 43 _ (0, 0) _ rfl H1.out Try.underlying43 rfl (by kernel_rfl)) rfl ⟨PtPost_no hf.out, VY.out.below⟩
end Go.Proofs.Ytlajcahlmbjmnaa.XQ
