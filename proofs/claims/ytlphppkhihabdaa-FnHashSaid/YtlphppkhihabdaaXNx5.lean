-- Written by a program of this session (xp.py over the kit's printer, with functions proved by hand). Lean checks it.
import Derived.Test.YtlphppkhihabdaaXNx0
import Derived.Test.YtlphppkhihabdaaXNx1
import Derived.Test.YtlphppkhihabdaaXNx2
import Derived.Test.YtlphppkhihabdaaXNx3
import Derived.Test.YtlphppkhihabdaaXNx4
namespace Go.Proofs.Ytlphppkhihabdaa.XN
open Go.Proofs.Ytlphppkhihabdaa.Limb Go.Proofs.Ytlphppkhihabdaa.Arr Go.Proofs.Ytlphppkhihabdaa.FldA Go.Proofs.Ytlphppkhihabdaa.FldB Go.Proofs.Ytlphppkhihabdaa.FldC Go.Proofs.Ytlphppkhihabdaa.FldS Go.Proofs.Ytlphppkhihabdaa.St Go.Proofs.Ytlphppkhihabdaa.OpenS Go.Proofs.Ytlphppkhihabdaa.StOps Go.Proofs.Ytlphppkhihabdaa.StMid Go.Proofs.Ytlphppkhihabdaa.StIdx Go.Proofs.Ytlphppkhihabdaa.StPt Go.Proofs.Ytlphppkhihabdaa.StBd Go.Proofs.Ytlphppkhihabdaa.ShaA Go.Proofs.Ytlphppkhihabdaa.ShaB Go.Proofs.Ytlphppkhihabdaa.ShaS
open Go.RowKit Go.Proofs.YtlphppkhihabdaaW.PrintWords Go.Proofs.YtlphppkhihabdaaW.PrintLast Go.Proofs.YtlphppkhihabdaaW.PrintMore
attribute [local go_sem] max2_int min2_int max_two min_two max_three min_three max_four min_four   -- for this text's walks alone
set_option linter.unusedVariables false
set_option linter.unusedSimpArgs false

/-! ### spec_l06Hash_sum: function 13 -/
theorem b8S_next (x : Int) (j : Nat) : b8S x (j + 1) = b8S x j ++ [byS x (8 * (7 - j))] := rfl
theorem outB_next (vs : List Int) (k : Nat) : outB vs (k + 1) = outB vs k ++ b8S (vs.getD k 0) 8 := rfl
theorem fresh_ne2 {k : IntKind} {t : TypeId} {w : World} {v2 v : Value} {base : Nat} {ok : Nat → Prop} {xs : List Int} (h : ∃ b, v2.ownBlock = some b ∧ w.heap.size ≤ b) (hw : Kd.R (Kd.int k) t w base ok v xs) (q : Nat) (e1 : v2.ownBlock = some q) (e2 : some q = v.ownBlock) : False := by
  obtain ⟨b, hb, hle⟩ := h
  have := Kd.R_lt hw q e2.symm
  rw [hb] at e1; cases e1; omega
theorem mul8 (n : Nat) (h : n < 1000000) : IntKind.u64.wrap ((n : Int) * 8) = 8 * (n : Int) := by rw [IntKind.wrap_u64]; omega
theorem u64n (n : Nat) (h : n < 1000000) : IntKind.u64.wrap (n : Int) = (n : Int) := by rw [IntKind.wrap_u64]; omega
theorem zN_spec (n j : Nat) (hj : j ≤ zN n) : ((n + 1 + j) % 128 = 112) ↔ j = zN n := by
  unfold zN at *; omega
set_option maxHeartbeats 40000000 in
set_option maxRecDepth 100000 in
theorem spec_sum.calls (gX : Nat) (Ak : Option Addr) (ck : Nat) (Ah : Option Addr) (ch : Nat) (A : Option Addr) (c : Nat) (l : List Int) (w : World)
    (hx : w.heap[gX]? = some (.cells #[.slice Ak 80 ck, .slice Ah 8 ch] 39 (0, 0))) (hk : Kd.C (Kd.int .u64) w Ak 80 shaK) (hh : Kd.C (Kd.int .u64) w Ah 8 shaH) (hb : Kd.C (Kd.int .u8) w A l.length l) (hc : l.length ≤ c) (hl : l.length < 1000000) :
    Calls Try.prog 13 #[.pointer (some ⟨gX, 0, none⟩), .slice A l.length c] w fun e w' => ∃ v, e = .returned v ∧ Kd.R (Kd.int .u8) 5 w' w.heap.size (fun _ => True) v (digestS l) ∧ Below w.heap.size w w' := by
  have infoE : (Try.prog.info? 5).map (fun i => (i.zero, i.size, i.bytes)) = some (some (.int .u8 0), 1, 1) := by kernel_rfl
  have INFO := Aside0.mk infoE
  have GX := Aside0.mk hx
  have HK := Aside0.mk hk
  have HH := Aside0.mk hh
  have HB := Aside0.mk hb
  have HC := Aside0.mk hc
  obtain ⟨n, en⟩ : ∃ n, n = l.length := ⟨_, rfl⟩
  obtain ⟨z, ez⟩ : ∃ z, z = zN n := ⟨_, rfl⟩
  obtain ⟨l1, e1⟩ : ∃ x, x = l ++ [128] := ⟨_, rfl⟩
  obtain ⟨l2, e2⟩ : ∃ x, x = l1 ++ List.replicate z 0 := ⟨_, rfl⟩
  obtain ⟨l3, e3⟩ : ∃ x, x = l2 ++ List.replicate 8 0 := ⟨_, rfl⟩
  obtain ⟨n8, en8⟩ : ∃ x : Int, x = 8 * (n : Int) := ⟨_, rfl⟩
  obtain ⟨l4, e4⟩ : ∃ x, x = l3 ++ b8S n8 8 := ⟨_, rfl⟩
  have EP := Aside0.mk (show padS l = l4 by rw [e4, e3, e2, e1, ez, en8, en]; rfl)
  have q1 : l1.length = n + 1 := by rw [e1, en]; simp
  have q2 : l2.length = n + 1 + z := by rw [e2]; simp [q1]
  have q3 : l3.length = n + 1 + z + 8 := by rw [e3]; simp [q2]
  have q4 : l4.length = n + 1 + z + 16 := by rw [e4]; simp [q3, b8S_length]
  have hz : z < 128 := by rw [ez]; unfold zN; omega
  have E1 := Aside0.mk e1
  have E2 := Aside0.mk e2
  have E3 := Aside0.mk e3
  have E4 := Aside0.mk e4
  have Q1 := Aside0.mk q1
  have Q2 := Aside0.mk q2
  have Q3 := Aside0.mk q3
  have Q4 := Aside0.mk q4
  have HZ := Aside0.mk ez
  have HZ2 := Aside0.mk hz
  have HN := Aside0.mk en
  have HL := Aside0.mk (show n < 1000000 by omega)
  have W8 : IntKind.u64.wrap ((n : Int) * 8) = n8 := by rw [mul8 n HL.out, en8]
  have WN : IntKind.u64.wrap (n : Int) = (n : Int) := u64n n HL.out
  have L0 := Aside0.mk (show 0 + l.length < 1099511627776 by omega)
  have L1 := Aside0.mk (show l.length + 1 < 1099511627776 by omega)
  rw [← en]
  rw [← en] at HB HC
  clear hx hk hh hb hc infoE en ez e1 e2 e3 e4 q1 q2 q3 q4 hz hl en8
  go_enter Try.func13, Try.ntmps13
  go_wp2_with (first
    | ((with_reducible refine gate_dst (N := 13) rfl ?_); refine Kd.R_lit (w0 := w) (Kd.int .u8) w.heap.size 5 rfl (N := 13) rfl (xs := ([] : List Int)) (inner := []) (ok := fun _ => True) (okp := fun _ => True) ?hr ?hp (fun _ hk => hk) trivial (Below.refl _ _) (Nat.le_refl _) (by simp) ?_; (case hr => first | (go_simp; done) | (go_simp; rfl)); (case hp => exact Kd.reps_scalar _); intro v1 w1 ho hb hg_ hnew_; have R0 := Aside0.mk ho; have B0 := Aside0.mk hb; clear ho hb hg_ hnew_)
    | ((with_reducible refine gate_builtin (b := .append) (xs := #[.tmp 13, .tmp 14]) rfl ?_); at_builtin; refine Kd.R_append_rows (Kd.int .u8) (w0 := w) w.heap.size rfl (.tmp 13) (.tmp 14) 22 5 (.int .u8 0) 1 rfl Try.underlying22 INFO.out rfl (by decide) (by decide) v1 [] l _ _ _ (fun _ => True) (fun _ => False) rfl rfl ?aO ?aR (fun _ _ h => h) (fun _ h => h.elim) ?aF ?aB ?aS ?aL ?_; (case aR => exact Kd.C_below HB.out B0.out); (case aB => exact B0.out); (case aF => exact (fun _ _ => trivial)); (case aO => exact R0.out); (case aS => exact (below_size B0.out)); (case aL => have := HL.out; simp only [List.length_nil]; omega); intro v2 w2 ho hb hg hat; rw [List.nil_append] at ho; have R1 := Aside0.mk ho; have B1 := Aside0.mk hb; clear ho hb hg hat)
    | ((with_reducible refine gate_builtin (b := .append) (xs := #[.tmp 15, .tmp 16]) rfl ?_); at_builtin; refine Kd.R_append (Kd.int .u8) (w0 := w) w.heap.size rfl (.tmp 15) (.tmp 16) 22 5 (.int .u8 0) 1 rfl Try.underlying22 INFO.out rfl (by decide) (by decide) v2 l 128 [.int .u8 128] (fun _ => True) (fun _ => False) rfl rfl ?aP (fun _ hk => hk.elim) ?aF ?aO ?aB ?aS ?aL ?_; (case aP => exact rfl); (case aB => exact B1.out); (case aF => exact (fun _ _ => trivial)); (case aO => exact R1.out); (case aS => exact (below_size B1.out)); (case aL => have := L1.out; omega); intro v3 w3 ho hb hg hat; rw [← E1.out] at ho; have R2 := Aside0.mk ho; have B2 := Aside0.mk hb; obtain ⟨A2, c2, rfl, hcl, hC⟩ := Kd.R_reads ho; clear ho hb hg hat hcl hC; rw [Q1.out] at R2 ⊢))
  have LPK : Aside0 (shaK.length = 80) := ⟨rfl⟩
  have LPH : Aside0 (shaH.length = 8) := ⟨rfl⟩
  obtain ⟨kk, ekk⟩ : ∃ x, x = shaK := ⟨_, rfl⟩
  obtain ⟨h0, eh0⟩ : ∃ x, x = shaH := ⟨_, rfl⟩
  have DG := Aside0.mk (show digestS l = outB (hshS kk h0 (padS l) ((padS l).length / 128)) 8 by rw [ekk, eh0]; rfl)
  rw [← ekk] at HK LPK
  rw [← eh0] at HH LPH
  clear ekk eh0
  go_loopg [5] (z + 1) (fun gg v5 wr => ∃ (j m : Nat) (A' : Option Addr) (c' : Nat), j ≤ z ∧ z - j ≤ gg ∧ m = n + 1 + j ∧ v5 = .slice A' m c' ∧ Aside0 (Kd.R (Kd.int .u8) 5 wr w.heap.size (fun _ => True) (.slice A' m c') (l1 ++ List.replicate j 0)) ∧ Aside0 (Below w.heap.size w wr))
  case atStart => exact ⟨0, _, _, _, by omega, by omega, rfl, rfl, by rw [List.replicate_zero, List.append_nil]; exact R2, B2⟩
  case round =>
    clear R2 B2 R1 B1 R0 B0
    obtain ⟨j, m, A', c', hj, hg, hm, rfl, R, B⟩ := hrel
    obtain ⟨a, ea⟩ : ∃ a, a = m % 128 := ⟨_, rfl⟩
    have hm9 : m < 1000200 := by have := HL.out; have := HZ2.out; omega
    have i1 : (m : Int) % 128 = (a : Int) := by omega
    have hiff := zN_spec n j (by rw [← HZ.out]; exact hj)
    rw [← hm, ← ea, ← HZ.out] at hiff
    by_cases hlt : j < z
    · have ha : ¬ a = 112 := fun h => by have := hiff.1 h; omega
      have hai : ¬ (a : Int) = 112 := by omega
      have EQ := Aside0.mk (show l1 ++ List.replicate (j + 1) 0 = (l1 ++ List.replicate j 0) ++ [0] by rw [List.replicate_succ', List.append_assoc])
      have LE := Aside0.mk (show (l1 ++ List.replicate j 0).length = m by rw [List.length_append, Q1.out, List.length_replicate, hm])
      have LL := Aside0.mk (show (l1 ++ List.replicate j 0).length + 1 < 1099511627776 by rw [LE.out]; omega)
      have EM := Aside0.mk (show m + 1 = n + 1 + (j + 1) by omega)
      clear hm hiff ea
      generalize l1 ++ List.replicate j 0 = ys at *
      go_wp2_with (first
        | ((with_reducible refine gate_builtin (b := .append) (xs := #[.tmp 22, .tmp 23]) rfl ?_); at_builtin; refine Kd.R_append (Kd.int .u8) (w0 := w) w.heap.size rfl (.tmp 22) (.tmp 23) 22 5 (.int .u8 0) 1 rfl Try.underlying22 INFO.out rfl (by decide) (by decide) (.slice A' m c') ys 0 [.int .u8 0] (fun _ => True) (fun _ => False) rfl rfl ?aP (fun _ hk => hk.elim) ?aF ?aO ?aB ?aS ?aL ?_; (case aP => exact rfl); (case aB => exact B.out); (case aF => exact (fun _ _ => trivial)); (case aO => exact R.out); (case aS => exact (below_size B.out)); (case aL => have := LL.out; omega); intro v4 w4 ho hb hg2 hat; rw [← EQ.out] at ho; have R4 := Aside0.mk ho; have B4 := Aside0.mk hb; obtain ⟨A4, c4, rfl, hcl, hC⟩ := Kd.R_reads ho; clear ho hb hg2 hat hcl hC; rw [EQ.out, List.length_append, LE.out, List.length_singleton] at R4 ⊢; rw [← EQ.out] at R4))
      go_roundg (z - (j + 1))
      case measure => omega
      case rel => exact ⟨j + 1, m + 1, _, _, by omega, by omega, EM.out, rfl, R4, B4⟩
    · obtain rfl : j = z := by omega
      have ha : a = 112 := hiff.2 rfl
      have hai : (a : Int) = 112 := by omega
      rw [← E2.out] at R
      have LE := Aside0.mk (show l2.length = m by rw [Q2.out, hm])
      have EM := Aside0.mk hm
      clear hiff ea hm hlt ha hj hg
      have LL := Aside0.mk (show l2.length + 8 < 1099511627776 by rw [LE.out]; omega)
      go_wp2_with (first
        | ((with_reducible refine gate_builtin (b := .append) (xs := #[.tmp 25, .const (.int .i64 8)]) rfl ?_); at_builtin; refine Kd.R_append_zeros (Kd.int .u8) (w0 := w) w.heap.size rfl (.tmp 25) (.const (.int .i64 8)) 22 3 5 (.int .u8 0) 1 rfl Try.underlying22 Try.underlying3 INFO.out rfl (by decide) (by decide) (.slice A' m c') l2 0 (8 : Int) (fun _ => True) rfl rfl ?aZ ?aF ?aO ?a0 ?aB ?aS ?aL ?_; (case aZ => first | exact rfl | trivial | exact ⟨rfl, rfl⟩ | simp); (case aO => exact R.out); (case aB => exact B.out); (case aF => exact (fun _ _ => trivial)); (case aS => exact (below_size B.out)); (case a0 => decide); (case aL => have := LL.out; exact (by simp; omega)); intro v5 w5 ho hb hg2 hat; rw [show (8 : Int).toNat = 8 from rfl, ← E3.out] at ho; have R5 := Aside0.mk ho; have B5 := Aside0.mk hb; obtain ⟨A5, c5, rfl, hcl, hC⟩ := Kd.R_reads ho; clear ho hb hg2 hat hcl hC; rw [Q3.out] at R5 ⊢))
      have EM2 := Aside0.mk (show n + 1 + j + 8 = l3.length from Q3.out.symm)
      rw [EM2.out] at R5 ⊢
      obtain ⟨m3, em3⟩ : ∃ m, m = l3.length := ⟨_, rfl⟩
      rw [← em3] at R5 ⊢
      have Q3 := Aside0.mk em3.symm
      clear R B LE EM hm9 i1 hai em3
      have HB8 := Aside0.mk (fun k => b8S_length n8 k)
      go_loopg [5, 7] 9 (fun gg v5 v7 wr => ∃ (k m : Nat) (i : Int) (A' : Option Addr) (c' : Nat), k ≤ 8 ∧ 8 - k ≤ gg ∧ i = 7 - (k : Int) ∧ v7 = .int .i64 i ∧ m = m3 + k ∧ v5 = .slice A' m c' ∧ Aside0 (Kd.R (Kd.int .u8) 5 wr w.heap.size (fun _ => True) (.slice A' m c') (l3 ++ b8S n8 k)) ∧ Aside0 (Below w.heap.size w wr))
      case atStart => exact ⟨0, _, _, _, _, by omega, by omega, rfl, rfl, rfl, rfl, by rw [show b8S n8 0 = [] from rfl, List.append_nil]; exact R5, B5⟩
      case round =>
        clear R5 B5
        obtain ⟨k, m, i, A', c', hk, hg, hi, rfl, hm, rfl, R, B⟩ := hrel
        by_cases hlt : k < 8
        · obtain ⟨ii, hii⟩ : ∃ ii : Nat, ii = 7 - k := ⟨_, rfl⟩
          obtain ⟨s8, hs8⟩ : ∃ s8 : Nat, s8 = 8 * ii := ⟨_, rfl⟩
          obtain rfl : i = (ii : Int) := by omega
          have hge : (ii : Int) ≥ 0 := by omega
          have x1 : 8 * (ii : Int) = (s8 : Int) := by omega
          have hs56 : s8 < 64 := by omega
          have x2 : IntKind.u64.wrap (s8 : Int) = (s8 : Int) := by rw [IntKind.wrap_u64]; omega
          have EQ := Aside0.mk (show l3 ++ b8S n8 (k + 1) = (l3 ++ b8S n8 k) ++ [byS n8 s8] by rw [b8S_next, ← hii, ← hs8, List.append_assoc])
          have LE := Aside0.mk (show (l3 ++ b8S n8 k).length = m by rw [List.length_append, Q3.out, b8S_length, hm])
          have LL := Aside0.mk (show (l3 ++ b8S n8 k).length + 1 < 1099511627776 by rw [LE.out, hm, ← Q3.out]; have := HL.out; have := HZ2.out; have := EM2.out; omega)
          have EM := Aside0.mk (show m + 1 = m3 + (k + 1) by omega)
          have EI := Aside0.mk (show (ii : Int) - 1 = 7 - ((k + 1 : Nat) : Int) by omega)
          clear hm hii hs8 hi
          generalize l3 ++ b8S n8 k = ys at *
          unfold byS at EQ
          go_wp2_with (first
            | ((with_reducible refine gate_builtin (b := .append) (xs := #[.tmp 35, .tmp 42]) rfl ?_); at_builtin; refine Kd.R_append (Kd.int .u8) (w0 := w) w.heap.size rfl (.tmp 35) (.tmp 42) 22 5 (.int .u8 0) 1 rfl Try.underlying22 INFO.out rfl (by decide) (by decide) (.slice A' m c') ys (n8 / 2 ^ s8 % 256) [.int .u8 (n8 / 2 ^ s8 % 256)] (fun _ => True) (fun _ => False) rfl rfl ?aP (fun _ hk => hk.elim) ?aF ?aO ?aB ?aS ?aL ?_; (case aP => exact rfl); (case aB => exact B.out); (case aF => exact (fun _ _ => trivial)); (case aO => exact R.out); (case aS => exact (below_size B.out)); (case aL => have := LL.out; omega); intro v4 w4 ho hb hg2 hat; rw [← EQ.out] at ho; have R4 := Aside0.mk ho; have B4 := Aside0.mk hb; obtain ⟨A4, c4, rfl, hcl, hC⟩ := Kd.R_reads ho; clear ho hb hg2 hat hcl hC; rw [EQ.out, List.length_append, LE.out, List.length_singleton] at R4 ⊢; rw [← EQ.out] at R4))
          go_roundg (8 - (k + 1))
          case measure => omega
          case rel => exact ⟨k + 1, m + 1, _, _, _, by omega, by omega, rfl, by rw [← EI.out], EM.out, rfl, R4, B4⟩
        · obtain rfl : k = 8 := by omega
          obtain rfl : i = -1 := by omega
          rw [← E4.out] at R
          have EM := Aside0.mk hm
          have LE := Aside0.mk (show l4.length = m by rw [Q4.out, EM.out, ← Q3.out, ← EM2.out])
          rw [← LE.out] at R ⊢
          clear hlt hk hg hi hm
          have INFU := Aside0.mk infoU
          go_wp2_with (first
            | ((with_reducible refine gate_dst (N := 44) rfl ?_); refine Kd.R_lit (w0 := w) (Kd.int .u64) w.heap.size 32 rfl (N := 44) rfl (xs := ([] : List Int)) (inner := []) (ok := fun _ => True) (okp := fun _ => True) ?hr ?hp (fun _ hk => hk) trivial B.out (below_size B.out) (by simp) ?_; (case hr => first | (go_simp; done) | (go_simp; rfl)); (case hp => exact Kd.reps_scalar _); intro v6 w6 ho hb hg_ hnew_; have RV := Aside0.mk ho; have B6 := Aside0.mk hb; have RR := Aside0.mk (Kd.R_grown R.out hg_ (fun _ _ => by simp)); have HN2 := Aside0.mk (fun k e1 e2 => fresh_ne2 hnew_ R.out k e1 e2); have hcx : w6.cell? ⟨gX, 1, none⟩ = some (.slice Ah 8 ch) := (blk_cell (blk_below GX.out hb) 1).trans rfl; clear ho hb hg_ hnew_)
            | ((with_reducible refine gate_builtin (b := .append) (xs := #[.tmp 44, .tmp 48]) rfl ?_); at_builtin; refine Kd.R_append_rows (Kd.int .u64) (w0 := w) w.heap.size rfl (.tmp 44) (.tmp 48) 37 32 (.int .u64 0) 8 rfl Try.underlying37 INFU.out rfl (by decide) (by decide) v6 [] h0 _ _ _ (fun _ => True) (fun _ => False) rfl rfl ?aO ?aR (fun _ _ h => h) (fun _ h => h.elim) ?aF ?aB ?aS ?aL ?_; (case aR => exact Kd.C_below HH.out B6.out); (case aB => exact B6.out); (case aF => exact (fun _ _ => trivial)); (case aO => exact RV.out); (case aS => exact (below_size B6.out)); (case aL => first | (simp only [List.length_nil]; done) | (simp only [List.length_nil]; omega)); intro v7 w7 ho hb hg_ hat; rw [List.nil_append] at ho; have RV7 := Aside0.mk ho; have B7 := Aside0.mk hb; have R7 := Aside0.mk (Kd.R_grown2 RR.out rfl hg_ (fun k e1 e2 => HN2.out k e1 e2)); clear ho hb hg_ hat hcx))
          obtain ⟨gv, cv, ev, _, _, _⟩ := Kd.R_form RV7.out (by rw [LPH.out]; decide)
          subst ev
          rw [LPH.out] at RV7 ⊢
          obtain ⟨m4, em4⟩ : ∃ m, m = l4.length := ⟨_, rfl⟩
          have CL := Aside0.mk (show m4 ≤ c' by obtain ⟨A_, c_, e_, h2_, _⟩ := Kd.R_reads R7.out; cases e_; rw [em4]; exact h2_)
          have hm9 : m4 < 2000000 := by have := Q4.out; have := HL.out; have := HZ2.out; omega
          obtain ⟨N, eN⟩ : ∃ N, N = m4 / 128 := ⟨_, rfl⟩
          have hN : m4 = 128 * N := by
            have h1 := padS_mod l
            rw [EP.out, ← em4] at h1
            omega
          have HM := Aside0.mk hN
          have HNN := Aside0.mk eN
          have Q4 := Aside0.mk em4.symm
          rw [← em4] at R7 ⊢
          have LHs := Aside0.mk (fun i => hshS_length kk h0 l4 LPH.out i)
          clear R B EM LE RR HN2 RV B6 em4 hN eN
          go_loopg [8, 9] (N + 1) (fun gg v8 v9 wr => ∃ (i a gh chh : Nat), i ≤ N ∧ N - i ≤ gg ∧ a = 128 * i ∧ v9 = .int .i64 (a : Int) ∧ v8 = .slice (some ⟨gh, 0, none⟩) 8 chh ∧ Aside0 (Kd.R (Kd.int .u64) 32 wr w.heap.size (fun _ => True) (.slice (some ⟨gh, 0, none⟩) 8 chh) (hshS kk h0 l4 i)) ∧ Aside0 (Kd.R (Kd.int .u8) 5 wr w.heap.size (fun _ => True) (.slice A' m4 c') l4) ∧ Aside0 (Below w.heap.size w wr))
          case atStart => exact ⟨0, 0, _, _, by omega, by omega, rfl, rfl, rfl, RV7, R7, B7⟩
          case round =>
            clear RV7 R7 B7
            obtain ⟨i, a, gh, chh, hi, hg, ha, rfl, rfl, RV, R, B⟩ := hrel
            by_cases hlt : i < N
            · obtain ⟨b, eb⟩ : ∃ b, b = a + 128 := ⟨_, rfl⟩
              have x1 : (a : Int) + 128 = (b : Int) := by omega
              have hbm : b ≤ m4 := by have := HM.out; omega
              have hbc : b ≤ c' := by have := CL.out; omega
              have hbci : (b : Int) ≤ (c' : Int) := by omega
              have ham : (a : Int) < (m4 : Int) := by omega
              have hab : (a : Int) ≤ (b : Int) := by omega
              have hab2 : a ≤ b := by omega
              have hb9 : (b : Int) < 2000000 := by omega
              have ha0 : (0 : Int) ≤ (a : Int) := by omega
              have EQ := Aside0.mk (show hshS kk h0 l4 (i + 1) = blkS kk (hshS kk h0 l4 i) (blkL l4 i) from rfl)
              have HBL := Aside0.mk (show (blkL l4 i).length = 128 by
                unfold blkL
                rw [List.length_drop, List.length_take, Q4.out]; have := HM.out; omega)
              have LH := Aside0.mk (LHs.out i)
              have HCB := Aside0.mk (show Kd.C (Kd.int .u8) wr (Option.map (fun x => x.add a) A') 128 (blkL l4 i) from by
                have h1 : Kd.C (Kd.int .u8) wr A' l4.length l4 := by
                  have h_ := R.out
                  rw [← Q4.out] at h_; obtain ⟨A_, c_, e_, _, h2_⟩ := Kd.R_reads h_; cases e_; exact h2_
                have h2 := Kd.C_mid (lo := a) (hi := b) (c := c') h1 (by omega) (by rw [Q4.out]; exact hbm) (by rw [Q4.out]; exact CL.out)
                have h3 := HBL.out
                unfold blkL at h3 ⊢
                rw [← ha, ← eb] at h3 ⊢
                rw [h3, if_neg (by omega), show (Kd.int IntKind.u8).sz = 1 from rfl, Nat.mul_one] at h2
                exact h2)
              have E128 := Aside0.mk (show 128 ≤ c' - a by omega)
              have EA := Aside0.mk (show b = 128 * (i + 1) by omega)
              have h128 : b - a = 128 := by omega
              generalize blkL l4 i = bl at *
              generalize hshS kk h0 l4 i = hv at *
              clear hi ha eb
              have BL8 := Aside0.mk (show (blkS kk hv bl).length = 8 from outS_length _ _ 8)
              have CALL := Aside0.mk (spec_block.calls gX Ak ck (.slice Ah 8 ch) kk (some ⟨gh, 0, none⟩) chh hv (Option.map (fun x => x.add a) A') (c' - a) bl wr (blk_below GX.out B.out) (Kd.C_below HK.out B.out) LPK.out (by obtain ⟨A_, c_, e_, _, h2_⟩ := Kd.R_reads (show Kd.R (Kd.int .u64) 32 wr w.heap.size (fun _ => True) (.slice (some ⟨gh, 0, none⟩) hv.length chh) hv from by rw [LH.out]; exact RV.out); cases e_; rw [LH.out] at h2_; exact h2_) LH.out HCB.out HBL.out E128.out)
              clear HCB
              go_wp2_with (first
                | ((with_reducible refine (CALL.out).mono ?_); rintro e w2 ⟨vx, rfl, hR, hb⟩; obtain ⟨gx, cx, ex, _, _, _⟩ := Kd.R_form hR (by rw [BL8.out]; decide); subst ex; rw [BL8.out] at hR ⊢; have RV2 := Aside0.mk (Kd.R_lower hR (below_size B.out)); have R2 := Aside0.mk (Kd.R_below R.out hb); have B2 := Aside0.mk (below_step B.out hb); clear hR hb))
              go_roundg (N - (i + 1))
              case measure => omega
              case rel => exact ⟨i + 1, b, _, _, by omega, by omega, EA.out, by go_num, rfl, by rw [EQ.out]; exact RV2, R2, B2⟩
            · obtain rfl : i = N := by omega
              have hneg : ¬ (a : Int) < (m4 : Int) := by have := HM.out; omega
              have ED := Aside0.mk (show digestS l = outB (hshS kk h0 l4 i) 8 by rw [DG.out, EP.out, Q4.out, ← HNN.out])
              have LH := Aside0.mk (LHs.out i)
              generalize hshS kk h0 l4 i = hv at *
              clear hi hg ha hlt
              go_wp2_with (first
                | ((with_reducible refine gate_dst (N := 64) rfl ?_); refine Kd.R_lit (w0 := w) (Kd.int .u8) w.heap.size 5 rfl (N := 64) rfl (xs := ([] : List Int)) (inner := []) (ok := fun _ => True) (okp := fun _ => True) ?hr ?hp (fun _ hk => hk) trivial B.out (below_size B.out) (by simp) ?_; (case hr => first | (go_simp; done) | (go_simp; rfl)); (case hp => exact Kd.reps_scalar _); intro v8 w8 ho hb hg_ hnew_; have R8 := Aside0.mk ho; have B8 := Aside0.mk hb; have RV8 := Aside0.mk (Kd.R_grown RV.out hg_ (fun _ _ => by simp)); clear ho hb hg_ hnew_))
              clear R RV B
              have LHV := LH
              go_loopg [10, 11, 12] 9 (fun gg v10 v11 _ wr => ∃ (k : Nat) (vv : Value), k ≤ 8 ∧ 8 - k ≤ gg ∧ v11 = .int .i64 (k : Int) ∧ vv = v10 ∧ Aside0 (Kd.R (Kd.int .u8) 5 wr w.heap.size (fun _ => True) vv (outB hv k)) ∧ Aside0 (Kd.R (Kd.int .u64) 32 wr w.heap.size (fun _ => True) (.slice (some ⟨gh, 0, none⟩) 8 chh) hv) ∧ Aside0 (Below w.heap.size w wr))
              case atStart => exact ⟨0, _, by omega, by omega, rfl, rfl, R8, RV8, B8⟩
              case round =>
                clear R8 RV8 B8
                obtain ⟨k, vv, hk, hg, rfl, rfl, R, RV, B⟩ := hrel
                by_cases hlt : k < 8
                · have hlti : (k : Int) < 8 := by omega
                  obtain ⟨x, hx⟩ : ∃ x, x = hv.getD k 0 := ⟨_, rfl⟩
                  have HX := Aside0.mk hx
                  have HK8 := Aside0.mk hlt
                  have EQO := Aside0.mk (show outB hv (k + 1) = outB hv k ++ b8S x 8 by rw [hx]; rfl)
                  have LO := Aside0.mk (outB_length hv k)
                  have LO2 := Aside0.mk (show (outB hv k).length ≤ 64 by rw [LO.out]; omega)
                  clear hx LO
                  generalize outB hv k = os at *
                  (repeat go_step)
                  go_loopg [10, 12] 9 (fun gg v10 v12 wr => ∃ (j : Nat) (i : Int) (vv : Value), j ≤ 8 ∧ 8 - j ≤ gg ∧ i = 7 - (j : Int) ∧ v12 = .int .i64 i ∧ vv = v10 ∧ Aside0 (Kd.R (Kd.int .u8) 5 wr w.heap.size (fun _ => True) vv (os ++ b8S x j)) ∧ Aside0 (Kd.R (Kd.int .u64) 32 wr w.heap.size (fun _ => True) (.slice (some ⟨gh, 0, none⟩) 8 chh) hv) ∧ Aside0 (Below w.heap.size w wr))
                  case atStart => exact ⟨0, _, _, by omega, by omega, rfl, rfl, rfl, by rw [show b8S x 0 = [] from rfl, List.append_nil]; exact R, RV, B⟩
                  case round =>
                    clear R RV B
                    have HG := Aside0.mk hg
                    clear hg
                    obtain ⟨j, i2, vv, hj, hg, hi2, rfl, rfl, R, RV, B⟩ := hrel
                    by_cases hlt2 : j < 8
                    · obtain ⟨ii, hii⟩ : ∃ ii : Nat, ii = 7 - j := ⟨_, rfl⟩
                      obtain ⟨s8, hs8⟩ : ∃ s8 : Nat, s8 = 8 * ii := ⟨_, rfl⟩
                      obtain rfl : i2 = (ii : Int) := by omega
                      have hge : (ii : Int) ≥ 0 := by omega
                      have x1 : 8 * (ii : Int) = (s8 : Int) := by omega
                      have hs56 : s8 < 64 := by omega
                      have x2 : IntKind.u64.wrap (s8 : Int) = (s8 : Int) := by rw [IntKind.wrap_u64]; omega
                      have EQ := Aside0.mk (show os ++ b8S x (j + 1) = (os ++ b8S x j) ++ [byS x s8] by rw [b8S_next, ← hii, ← hs8, List.append_assoc])
                      have LL := Aside0.mk (show (os ++ b8S x j).length + 1 < 1099511627776 by rw [List.length_append, b8S_length]; have := LO2.out; omega)
                      have EI := Aside0.mk (show (ii : Int) - 1 = 7 - ((j + 1 : Nat) : Int) by omega)
                      have hcx : wr.cell? ⟨gh, k, none⟩ = some (.int .u64 x) := by rw [HX.out]; exact cellR RV.out LHV.out HK8.out
                      clear hii hs8 hi2
                      generalize os ++ b8S x j = ys at *
                      unfold byS at EQ
                      go_wp2_with (first
                        | ((with_reducible refine gate_builtin (b := .append) (xs := #[.tmp 73, .tmp 83]) rfl ?_); at_builtin; refine Kd.R_append (Kd.int .u8) (w0 := w) w.heap.size rfl (.tmp 73) (.tmp 83) 22 5 (.int .u8 0) 1 rfl Try.underlying22 INFO.out rfl (by decide) (by decide) vv ys (x / 2 ^ s8 % 256) [.int .u8 (x / 2 ^ s8 % 256)] (fun _ => True) (fun _ => False) rfl rfl ?aP (fun _ hk => hk.elim) ?aF ?aO ?aB ?aS ?aL ?_; (case aP => exact rfl); (case aB => exact B.out); (case aF => exact (fun _ _ => trivial)); (case aO => exact R.out); (case aS => exact (below_size B.out)); (case aL => have := LL.out; omega); intro v4 w4 ho hb hg2 hat; rw [← EQ.out] at ho; have R4 := Aside0.mk ho; have B4 := Aside0.mk hb; have RV4 := Aside0.mk (Kd.R_mono (Kd.R_grown (Kd.R_apartR RV.out R.out (htn 32 5 _ (by decide))) hg2 (fun _ hk => hk.2)) (fun _ _ => (trivial : True))); clear ho hb hg2 hat hcx))
                      go_roundg (8 - (j + 1))
                      case measure => omega
                      case rel => exact ⟨j + 1, _, _, by omega, by omega, rfl, by rw [← EI.out], rfl, R4, RV4, B4⟩
                    · obtain rfl : j = 8 := by omega
                      obtain rfl : i2 = -1 := by omega
                      rw [← EQO.out] at R
                      clear hlt2 hj hg hi2
                      have hg := HG.out
                      go_wp2
                      go_roundg (8 - (k + 1))
                      case measure => omega
                      case rel => exact ⟨k + 1, _, by omega, by omega, by go_num, rfl, R, RV, B⟩
                · obtain rfl : k = 8 := by omega
                  have hneg : ¬ ((8 : Nat) : Int) < 8 := by omega
                  rw [← ED.out] at R
                  clear hlt hk hg
                  go_wp2
                  go_ret
                  exact ⟨_, rfl, R.out, B.out⟩


/-! ### spec_Sha512: function 5 -/
def spec_Sha512.f (k : Nat) (l0 : List Int) : Option (List Int × Int) := if (l0.length : Int) > 65536 then some ([], 2) else if consB k = true then some (digestS l0, 0) else none
theorem consB_mono {k : Nat} (h : consB k = true) : consB (k + 1) = true := by
  obtain ⟨h1, h2, h3⟩ := consB_is h
  unfold consB
  simp only [Bool.and_eq_true, beq_iff_eq, List.all_eq_true, List.mem_range]
  exact ⟨spec_l06Primes.mono 80 k _ h1, fun i hi => spec_l06Frac.mono _ 3 k _ (h2 i hi), fun i hi => spec_l06Frac.mono _ 2 k _ (h3 i hi)⟩
theorem spec_Sha512.mono : ∀ a0 k, LeO (spec_Sha512.f k a0) (spec_Sha512.f (k + 1) a0) := by
  intro a0 k r h
  unfold spec_Sha512.f at h ⊢
  by_cases ho : (a0.length : Int) > 65536
  · rw [if_pos ho] at h ⊢; exact h
  · rw [if_neg ho] at h ⊢
    by_cases hk : consB k = true
    · rw [if_pos hk] at h; rw [if_pos (consB_mono hk)]; exact h
    · rw [if_neg hk] at h; cases h
set_option maxHeartbeats 1000000 in
set_option maxRecDepth 100000 in
theorem spec_Sha512.calls (k : Nat) (A0 : Option Addr) (c0 : Nat) (l0 : List Int) (r1 : List Int) (r2 : Int) (w : World) (hr0 : Kd.C (Kd.int .u8) w A0 l0.length l0) (hc0 : l0.length ≤ c0) (h : spec_Sha512.f k l0 = some (r1, r2)) :
    Calls Try.prog 5 #[.slice A0 l0.length c0] w fun e w' => ∃ v0_ : Value, e = .returned (.tuple #[v0_, .int .i64 r2]) ∧ Kd.R (Kd.int .u8) 5 w' w.heap.size (fun _ => True) v0_ r1 ∧ Below w.heap.size w w' := by
  unfold spec_Sha512.f at h
  by_cases ho : (l0.length : Int) > 65536
  · rw [if_pos ho] at h
    simp only [Option.some.injEq, Prod.mk.injEq] at h
    obtain ⟨rfl, rfl⟩ := h
    clear hr0 hc0
    go_enter Try.func5, Try.ntmps5
    go_wp2_with (first
      | ((with_reducible refine gate_dst (N := 7) rfl ?_); refine Kd.R_lit (w0 := w) (Kd.int .u8) w.heap.size 5 rfl (N := 7) rfl (xs := ([] : List Int)) (inner := []) (ok := fun _ => True) (okp := fun _ => True) ?hr ?hp (fun _ hk => hk) trivial (Below.refl _ _) (Nat.le_refl _) (by simp) ?_; (case hr => first | (go_simp; done) | (go_simp; rfl)); (case hp => exact Kd.reps_scalar _); intro v1 w1 ho hb hg_ hnew_; have R1 := Aside0.mk ho; have B1 := Aside0.mk hb; clear ho hb hg_ hnew_))
    go_ret2
    exact ⟨_, rfl, R1.out, B1.out⟩
  · rw [if_neg ho] at h
    by_cases hk : consB k = true
    · rw [if_pos hk] at h
      simp only [Option.some.injEq, Prod.mk.injEq] at h
      obtain ⟨rfl, rfl⟩ := h
      have MK := Aside0.mk (spec_l06Make.calls k w hk)
      have HR := Aside0.mk hr0
      have HC := Aside0.mk hc0
      have HL := Aside0.mk (show l0.length < 1000000 by omega)
      clear hr0 hc0 hk
      go_enter Try.func5, Try.ntmps5
      go_wp2_with (first
        | ((with_reducible refine (MK.out).mono ?_); rintro e w1 ⟨rfl, vk, vh, hx, hk, hh, hb⟩; have GX := Aside0.mk hx; have HK := Aside0.mk hk; have HH := Aside0.mk hh; have B1 := Aside0.mk hb; clear hx hk hh hb))
      obtain ⟨Ak, ck, e1, _, hkC⟩ := Kd.R_reads HK.out
      obtain ⟨Ah, ch, e2, _, hhC⟩ := Kd.R_reads HH.out
      subst e1 e2
      have SM := Aside0.mk (spec_sum.calls w.heap.size Ak ck Ah ch A0 c0 l0 w1 GX.out hkC hhC (Kd.C_below HR.out B1.out) HC.out HL.out)
      clear hkC hhC
      go_wp2_with (first
        | ((with_reducible refine (SM.out).mono ?_); rintro e w2 ⟨v2, rfl, hR, hb⟩; have R2 := Aside0.mk (Kd.R_lower hR (below_size B1.out)); have B2 := Aside0.mk (below_step B1.out hb); clear hR hb))
      go_ret2
      exact ⟨_, rfl, R2.out, B2.out⟩
    · rw [if_neg hk] at h
      exact absurd h (by simp)


/-! ### impl_isShort_byte: function 14 -/
def impl_isShort_byte.f (l0 : List Int) : Option (Bool) := some (decide ((l0.length : Int) ≤ 65536))
set_option maxHeartbeats 8000000 in
set_option maxRecDepth 100000 in
theorem impl_isShort_byte.calls (A0 : Option Addr) (c0 : Nat) (l0 : List Int) (r : Bool) (w : World) (hr0 : Kd.C (Kd.int .u8) w A0 l0.length l0) (hc0 : l0.length ≤ c0) (h : impl_isShort_byte.f l0 = some r) :
    Calls Try.prog 14 #[.slice A0 l0.length c0] w fun e w' => e = .returned (.bool r) ∧ Drawn0 w w' := by
  have HR0 := Aside0.mk hr0
  have HC0 := Aside0.mk hc0
  clear hr0 hc0
  have H : (some (decide ((l0.length : Int) ≤ 65536))) = some r := h
  clear h
  obtain rfl := Option.some.inj H
  go_enter Try.func14, Try.ntmps14
  go_wp2
  go_ret
  exact ⟨by first | rfl | (simp; done) | (simp [*]; done), by repeat (first | exact Drawn0.refl _ | apply Drawn0.step)⟩

/-! ### slices_Grow_byte_byte: function 29 -/
set_option maxHeartbeats 1000000 in
set_option maxRecDepth 100000 in
theorem growNil.calls (n : Nat) (w : World) (hn : n < 1099511627776) :
    Calls Try.prog 29 #[.slice none 0 0, .int .i64 (n : Int)] w fun e w' => ∃ v, e = .returned v ∧ Kd.R (Kd.int .u8) 5 w' w.heap.size (fun _ => True) v [] ∧ Below w.heap.size w w' := by
  have hd0 : (Kd.int .u8).M w w.heap.size (fun _ => False) 0 (Value.int .u8 0).cells.toList := by first | exact rfl | trivial | exact ⟨rfl, rfl⟩ | simp
  have infoE : (Try.prog.info? 5).map (fun i => (i.zero, i.size, i.bytes)) = some (some (.int .u8 0), 1, 1) := by kernel_rfl
  have INFO := Aside0.mk infoE
  clear infoE
  have n0 : ¬ (n : Int) < 0 := by omega
  by_cases hz : n = 0
  · subst hz
    go_enter Try.func29, Try.ntmps29
    go_wp2
    go_ret
    exact ⟨_, rfl, Kd.R_nil _ _ _ _ _, Below.refl _ _⟩
  · have hp : (n : Int) > 0 := by omega
    go_enter Try.func29, Try.ntmps29
    go_wp2_with (first
      | ((with_reducible refine gate_builtin (b := .append) (xs := #[.tmp 20, .tmp 21]) rfl ?_); at_builtin; refine Kd.R_append_zeros (Kd.int .u8) (w0 := w) w.heap.size rfl (.tmp 20) (.tmp 21) 22 3 5 (.int .u8 0) 1 rfl Try.underlying22 Try.underlying3 INFO.out rfl (by decide) (by decide) (.slice none 0 0) [] 0 (n : Int) (fun _ => True) rfl rfl ?aZ ?aF ?aO ?a0 ?aB ?aS ?aL ?_; (case aZ => exact hd0); (case aO => exact Kd.R_nil _ _ _ _ _); (case aB => exact Below.refl _ _); (case aF => exact (fun _ _ => trivial)); (case aS => exact Nat.le_refl _); (case a0 => omega); (case aL => simp only [List.length_nil, Nat.zero_add]; omega); intro v1 w1 ho hb hg hat; obtain ⟨gr, cr, er, _, _, _, _⟩ := Kd.R_form ho (by simp only [List.nil_append, List.length_replicate]; omega); simp only [List.nil_append, List.length_replicate, Int.toNat_natCast] at er; subst er; have HO := Aside0.mk (Kd.R_take ho (m := 0) (Nat.zero_le _)); have HB := Aside0.mk hb; clear ho hb hg hat))
    go_ret
    exact ⟨_, rfl, HO.out, HB.out⟩


/-! ### slices_Concat_byte_byte: function 21 -/
def catL (ls : List (List Int)) (k : Nat) : List Int := (ls.take k).flatten
theorem take_flat (ls : List (List Int)) (k : Nat) (hk : k < ls.length) : catL ls (k + 1) = catL ls k ++ ls.getD k [] := by
  unfold catL
  rw [List.take_add_one, List.flatten_append, List.getD_eq_getElem?_getD, List.getElem?_eq_getElem hk]
  simp
theorem take_flat_le (ls : List (List Int)) (k : Nat) : (catL ls k).length ≤ ls.flatten.length := by
  unfold catL
  have h := congrArg List.flatten (List.take_append_drop k ls)
  rw [List.flatten_append] at h
  rw [← h, List.length_append]; omega
set_option maxHeartbeats 4000000 in
set_option maxRecDepth 100000 in
theorem slices_Concat.calls (g c0 : Nat) (ls : List (List Int)) (As : Nat → Option Addr) (cs : Nat → Nat) (w : World) (hn : ls.length < 1000) (htot : ls.flatten.length < 1099511627776)
    (hv : ∀ i, i < ls.length → w.cell? ⟨g, i, none⟩ = some (.slice (As i) (ls.getD i []).length (cs i)) ∧ Kd.C (Kd.int .u8) w (As i) (ls.getD i []).length (ls.getD i []) ∧ (ls.getD i []).length ≤ cs i) :
    Calls Try.prog 21 #[.slice (some ⟨g, 0, none⟩) ls.length c0] w fun e w' => ∃ v, e = .returned v ∧ Kd.R (Kd.int .u8) 5 w' w.heap.size (fun _ => True) v ls.flatten ∧ Below w.heap.size w w' := by
  have infoE : (Try.prog.info? 5).map (fun i => (i.zero, i.size, i.bytes)) = some (some (.int .u8 0), 1, 1) := by kernel_rfl
  have INFO := Aside0.mk infoE
  clear infoE
  have HV := Aside0.mk hv
  have HT := Aside0.mk htot
  have HN := Aside0.mk hn
  obtain ⟨nT, hnT⟩ : ∃ n, n = ls.flatten.length := ⟨_, rfl⟩
  have HG := Aside0.mk (growNil.calls nT w (by omega))
  have HTF := Aside0.mk (show catL ls ls.length = ls.flatten by unfold catL; rw [List.take_length])
  have HTN := Aside0.mk (show (catL ls ls.length).length = nT by rw [HTF.out, hnT])
  clear hnT
  clear hv htot hn
  go_enter Try.func21, Try.ntmps21
  go_wp2
  go_loopg [3, 5, 11] (ls.length + 1) (fun gg v3 _ v11 wr => ∃ k : Nat, k ≤ ls.length ∧ ls.length - k ≤ gg ∧ v11 = .int .i64 k ∧ v3 = .int .i64 ((catL ls k).length : Nat) ∧ w = wr)
  case atStart => exact ⟨0, by omega, by omega, rfl, rfl, rfl⟩
  case round =>
    obtain ⟨k, hk, hg, rfl, rfl, rfl⟩ := hrel
    by_cases hlt : k < ls.length
    · have hlti : (k : Int) < (ls.length : Int) := by omega
      have hc := (HV.out k hlt).1
      have e1 := take_flat ls k hlt
      have e2 := take_flat_le ls (k + 1)
      have HT2 := HT.out
      have HN2 := HN.out
      obtain ⟨n1, h1⟩ : ∃ n, n = (catL ls k).length := ⟨_, rfl⟩
      obtain ⟨n2, h2⟩ : ∃ n, n = (ls.getD k []).length := ⟨_, rfl⟩
      obtain ⟨n3, h3⟩ : ∃ n, n = (catL ls (k + 1)).length := ⟨_, rfl⟩
      rw [e1, List.length_append, ← h1, ← h2] at h3
      rw [← h2] at hc
      rw [← h1]
      have E3 := Aside0.mk (show (catL ls (k + 1)).length = n3 by rw [e1, List.length_append, ← h1, ← h2, h3])
      rw [E3.out] at e2
      clear e1 h1 h2
      have i1 : (n1 : Int) + (n2 : Int) = (n3 : Int) := by omega
      have i2 : ¬ (n3 : Int) < 0 := by omega
      have i3 : (n3 : Int) < 1099511627776 := by omega
      clear h3 e2 HT2
      go_wp2
      go_roundg (ls.length - (k + 1))
      case measure => omega
      case rel => exact ⟨k + 1, by omega, by omega, by go_num, by rw [E3.out], rfl⟩
    · obtain rfl : k = ls.length := by omega
      have hneg : ¬ (ls.length : Int) < (ls.length : Int) := by omega
      rw [HTN.out]
      clear hlt hg hk
      go_wp2_with (first
        | ((with_reducible refine (HG.out).mono ?_); rintro e w1 ⟨v1, rfl, hR, hb⟩; have R1 := Aside0.mk hR; have B1 := Aside0.mk hb; clear hR hb))
      go_loopg [6, 8, 27] (ls.length + 1) (fun gg v6 _ v27 wr => ∃ (k : Nat) (vv : Value), k ≤ ls.length ∧ ls.length - k ≤ gg ∧ v27 = .int .i64 k ∧ vv = v6 ∧ Aside0 (Kd.R (Kd.int .u8) 5 wr w.heap.size (fun _ => True) vv (catL ls k)) ∧ Aside0 (Below w.heap.size w wr))
      case atStart => exact ⟨0, v1, by omega, by omega, rfl, rfl, R1, B1⟩
      case round =>
        clear R1 B1
        obtain ⟨k, vv, hk, hg, rfl, rfl, R, B⟩ := hrel
        by_cases hlt : k < ls.length
        · have hlti : (k : Int) < (ls.length : Int) := by omega
          obtain ⟨hc, hC, hcs⟩ := HV.out k hlt
          have hc2 := (B.out.cell (World.block_lt_of_cell? w _ hc)).trans hc
          have HC2 := Aside0.mk (Kd.C_below hC B.out)
          have HN2 := HN.out
          have E3 := Aside0.mk (take_flat ls k hlt)
          have HLE := Aside0.mk (show (catL ls k).length + (ls.getD k []).length < 1099511627776 by
            have e1 := take_flat ls k hlt
            have e2 := take_flat_le ls (k + 1)
            have := HT.out
            rw [e1, List.length_append] at e2; omega)
          clear hc hC hcs
          generalize (catL ls k) = xs at *
          generalize ls.getD k [] = ys at *
          go_wp2_with (first
            | ((with_reducible refine gate_builtin (b := .append) (xs := #[.tmp 31, .tmp 32]) rfl ?_); at_builtin; refine Kd.R_append_rows (Kd.int .u8) (w0 := w) w.heap.size rfl (.tmp 31) (.tmp 32) 22 5 (.int .u8 0) 1 rfl Try.underlying22 INFO.out rfl (by decide) (by decide) vv xs ys _ _ _ (fun _ => True) (fun _ => False) rfl rfl ?aO ?aR (fun _ _ h => h) (fun _ h => h.elim) ?aF ?aB ?aS ?aL ?_; (case aR => exact HC2.out); (case aB => exact B.out); (case aF => exact (fun _ _ => trivial)); (case aO => exact R.out); (case aS => exact (below_size B.out)); (case aL => have := HLE.out; omega); intro v129 w7 ho hb hg hat; have R7 := Aside0.mk ho; have B7 := Aside0.mk hb; clear ho hb hg hat))
          go_roundg (ls.length - (k + 1))
          case measure => omega
          case rel => exact ⟨k + 1, _, by omega, by omega, by go_num, rfl, by rw [E3.out]; exact ⟨Kd.R_mono R7.out (fun _ hk => trivial)⟩, B7⟩
        · obtain rfl : k = ls.length := by omega
          have hneg : ¬ (ls.length : Int) < (ls.length : Int) := by omega
          rw [HTF.out] at R
          go_wp2
          go_ret
          exact ⟨_, rfl, R.out, B.out⟩


/-! ### impl_big: function 22 -/
def impl_big.l0 : Nat → Int → Int → List Int → Int → Int → Option (List Int)
  | 0, _, _, _, _, _ => none
  | k + 1, x0, x1, x5, x10, x11 => if x11 < x10 then (if 0 ≤ (wrap64 (8 * x11)) then (if 0 ≤ (wrap64 ((wrap64 (x1 - 1)) - x11)) then (if (wrap64 ((wrap64 (x1 - 1)) - x11)) < (x5.length : Int) then (impl_big.l0 k x0 x1 (x5.set ((wrap64 ((wrap64 (x1 - 1)) - x11)) : Int).toNat ((shr .i64 x0 (wrap64 (8 * x11))) % 256)) x10 (wrap64 (x11 + 1))) else (none)) else (none)) else (none)) else (some x5)
def impl_big.f (k : Nat) (a0 : Int) (a1 : Int) : Option (List Int) := if 0 ≤ a1 then (if (a1 : Int).toNat ≤ 281474976710656 then ((some (List.replicate (a1 : Int).toNat 0 : List Int)).bind fun y150 => (impl_big.l0 k a0 a1 y150 (y150.length : Int) 0)) else (none)) else (none)
theorem impl_big.mono_l : ∀ k, (∀ y0 y1 y2 y3 y4, LeO (impl_big.l0 k y0 y1 y2 y3 y4) (impl_big.l0 (k + 1) y0 y1 y2 y3 y4))
  | 0 => fun _ _ _ _ _ r h => by simp [impl_big.l0] at h
  | k + 1 => by
    have ih0 := impl_big.mono_l k
    · intro y0 y1 y2 y3 y4
      unfold impl_big.l0
      repeat' first
      | (with_reducible exact ih0 _ _ _ _ _)
      | (with_reducible exact LeO.refl _)
      | (with_reducible exact LeO.none _)
      | (with_reducible refine LeO.ite ?_ ?_)
      | (with_reducible refine LeO.bind ?_ (fun _ => ?_))
      | exact ih0 _ _ _ _ _
      | exact LeO.none _
      | refine LeO.ite ?_ ?_
      | refine LeO.bind ?_ (fun _ => ?_)
theorem impl_big.mono : ∀ a0 a1 k, LeO (impl_big.f k a0 a1) (impl_big.f (k + 1) a0 a1) := by
  intro a0 a1 k
  have ih0 := impl_big.mono_l k
  unfold impl_big.f
  repeat' first
      | (with_reducible exact ih0 _ _ _ _ _)
      | (with_reducible exact LeO.refl _)
      | (with_reducible exact LeO.none _)
      | (with_reducible refine LeO.ite ?_ ?_)
      | (with_reducible refine LeO.bind ?_ (fun _ => ?_))
      | exact ih0 _ _ _ _ _
      | exact LeO.none _
      | refine LeO.ite ?_ ?_
      | refine LeO.bind ?_ (fun _ => ?_)
set_option maxHeartbeats 8000000 in
set_option maxRecDepth 100000 in
theorem impl_big.calls (k : Nat) (a0 : Int) (a1 : Int) (r : List Int) (w : World) (h : impl_big.f k a0 a1 = some r) :
    Calls Try.prog 22 #[.int .i64 a0, .int .i64 a1] w fun e w' => ∃ v0_ : Value, e = .returned (v0_) ∧ Kd.R (Kd.int .u8) 5 w' w.heap.size (fun _ => True) v0_ r ∧ Below w.heap.size w w' := by
  have HB := Aside0.mk (Below.refl w.heap.size w)
  have H : (if 0 ≤ a1 then (if (a1 : Int).toNat ≤ 281474976710656 then ((some (List.replicate (a1 : Int).toNat 0 : List Int)).bind fun y150 => (impl_big.l0 k a0 a1 y150 (y150.length : Int) 0)) else (none)) else (none)) = some r := h
  clear h
  by_cases c3 : 0 ≤ a1
  · rw [if_pos c3] at H
    have c3b0 := eq_true c3
    have c3b1 : decide (0 ≤ a1) = true := decide_eq_true c3
    clear c3
    by_cases c4 : (a1 : Int).toNat ≤ 281474976710656
    · rw [if_pos c4] at H
      have c4b0 := eq_true c4
      have c4b1 : decide ((a1 : Int).toNat ≤ 281474976710656) = true := decide_eq_true c4
      clear c4
      obtain ⟨y150, hy150⟩ : ∃ y_ : List Int, y_ = (List.replicate (a1 : Int).toNat 0) := ⟨_, rfl⟩
      replace H : (impl_big.l0 k a0 a1 y150 (y150.length : Int) 0) = some r := by first | (rw [hy150]; with_reducible exact H) | (have H2_ := (Option.bind_some _ _).symm.trans H; rw [hy150]; with_reducible exact H2_) | (have H2_ := (Option.bind_some _ _).symm.trans H; with_reducible exact H2_) | with_reducible exact H | (rw [hy150]; exact H) | exact H
      have Ny150 := Aside0.mk hy150
      clear hy150
      have H' := Aside0.mk H
      clear H
      go_enter Try.func22, Try.ntmps22
      go_wp2_with (first | ((with_reducible refine gate_dst (N := 8) rfl ?_); refine Kd.R_make (Kd.int .u8) _ 5 rfl (N := 8) rfl 22 _ _ rfl a1 rfl rfl Try.underlying22 (.int .u8 0) 1 info5 rfl (by decide) (by omega) 0 (ok := fun _ => True) (okp := fun _ => True) rfl (fun _ hk => hk) trivial (of_decide_eq_true (by first | (with_reducible assumption) | assumption)) (Nat.le_trans (Nat.mul_le_mul_right _ (of_decide_eq_true (by first | (with_reducible assumption) | assumption) : a1.toNat ≤ 281474976710656)) (by omega)) (Below.refl _ _) (Nat.le_refl _) ?_; intro v151 w5 ho6 hb hg_ hnew_; clear hg_ hnew_; (first | rw [← Ny150.out] at ho6 | (simp only [Int.reduceToNat] at ho6; rw [← Ny150.out] at ho6)); have n0_ := Aside0.mk (Kd.R_lower ho6 (below_size (by repeat (first | (with_reducible first | exact HB.out | apply below_alloc | apply pw_below_drewN | apply below_drew1) | exact HB.out)))); have n1_ := Aside0.mk (below_step (by repeat (first | (with_reducible first | exact HB.out | apply below_alloc | apply pw_below_drewN | apply below_drew1) | exact HB.out)) hb); clear HB; have HO152 := n0_; have HB := n1_; clear n0_ n1_; clear hb ho6; obtain ⟨Ao7, co7, eo7⟩ := Kd.R_slice HO152.out; subst eo7))
      go_loopg [11] k (fun kq v11 w' => ∃ (x5_1 : List Int) (x11_1 : Int), v11 = .int .i64 x11_1 ∧ Aside0 (impl_big.l0 kq a0 a1 x5_1 (y150.length : Int) x11_1 = some r) ∧ Aside0 (kq ≤ k) ∧ Aside0 (Kd.R (Kd.int .u8) 5 w' w.heap.size (fun _ => True) (.slice Ao7 y150.length co7) x5_1) ∧ Aside0 (Below w.heap.size w w'))
      case atStart => exact ⟨(y150), (0), (by first | rfl | (simp; done) | (simp [*]; done)), H', ⟨Nat.le_refl _⟩, ⟨by (with_reducible repeat (first | apply Kd.R_alloc | apply Kd.R_drewN | apply Kd.R_drew)); exact HO152.out⟩, ⟨by repeat (first | (with_reducible first | exact HB.out | apply below_alloc | apply pw_below_drewN | apply below_drew1) | exact HB.out)⟩⟩
      case round =>
        clear H'
        try clear c2
        try clear p2
        try clear c3
        try clear c3b0
        try clear c3b1
        try clear c4
        try clear c4b0
        try clear c4b1
        obtain ⟨x5_1, x11_1, rfl, HA, HK1, HO_5, HB⟩ := hrel
        have hl5_1 := (Kd.R_reads' HO_5.out).1
        rw [hl5_1] at HO_5
        (try simp only [hl5_1])
        cases gk with
        | zero => exact absurd HA.out (by simp [impl_big.l0])
        | succ k1 =>
          have H := HA.out
          clear HA
          simp only [impl_big.l0] at H
          by_cases c8 : x11_1 < (y150.length : Int)
          · rw [if_pos c8] at H
            have c8b0 : decide (x11_1 < (y150.length : Int)) = true := decide_eq_true c8
            (try (have c8x0 := c8b0; simp only [hl5_1] at c8x0))
            clear c8
            obtain ⟨ji9, hji9⟩ : ∃ j_ : Int, (wrap64 (8 * x11_1)) = j_ := ⟨_, rfl⟩
            replace H : (if 0 ≤ (ji9) then (if 0 ≤ (wrap64 ((wrap64 (a1 - 1)) - x11_1)) then (if (wrap64 ((wrap64 (a1 - 1)) - x11_1)) < (x5_1.length : Int) then (impl_big.l0 k1 a0 a1 (x5_1.set ((wrap64 ((wrap64 (a1 - 1)) - x11_1)) : Int).toNat ((shr .i64 a0 (ji9)) % 256)) (y150.length : Int) (wrap64 (x11_1 + 1))) else (none)) else (none)) else (none)) = some r := by first | (rw [hji9] at H; exact H) | (simp only [hji9] at H ⊢; exact H)
            have hji9w : (IntKind.i64.wrap (8 * x11_1)) = ji9 := (i64_w _).trans hji9
            by_cases c10 : 0 ≤ (ji9)
            · rw [if_pos c10] at H
              have c10b0 := eq_true c10
              have c10b1 : decide (0 ≤ (ji9)) = true := decide_eq_true c10
              clear c10
              obtain ⟨ji11, hji11⟩ : ∃ j_ : Int, (shr .i64 a0 (ji9)) = j_ := ⟨_, rfl⟩
              replace H : (if 0 ≤ (wrap64 ((wrap64 (a1 - 1)) - x11_1)) then (if (wrap64 ((wrap64 (a1 - 1)) - x11_1)) < (x5_1.length : Int) then (impl_big.l0 k1 a0 a1 (x5_1.set ((wrap64 ((wrap64 (a1 - 1)) - x11_1)) : Int).toNat ((ji11) % 256)) (y150.length : Int) (wrap64 (x11_1 + 1))) else (none)) else (none)) = some r := by first | (rw [hji11] at H; exact H) | (simp only [hji11] at H ⊢; exact H)
              have hji11_ : (a0 / 2 ^ min (ji9).toNat 64) = ji11 := hji11
              have hji11z : (ji9) ≤ 64 → (a0 / 2 ^ (ji9).toNat) = ji11 := shr_small hji11
              obtain ⟨ji12, hji12⟩ : ∃ j_ : Int, (wrap64 ((wrap64 (a1 - 1)) - x11_1)) = j_ := ⟨_, rfl⟩
              replace H : (if 0 ≤ (ji12) then (if (ji12) < (x5_1.length : Int) then (impl_big.l0 k1 a0 a1 (x5_1.set ((ji12) : Int).toNat ((ji11) % 256)) (y150.length : Int) (wrap64 (x11_1 + 1))) else (none)) else (none)) = some r := by first | (rw [hji12] at H; exact H) | (simp only [hji12] at H ⊢; exact H)
              have hji12w : (IntKind.i64.wrap ((wrap64 (a1 - 1)) - x11_1)) = ji12 := (i64_w _).trans hji12
              (try simp only [hji9, hji11] at hji12 hji12w)
              (try simp only [hji12] at hji9 hji9w)
              (try simp only [hji12] at hji11 hji11w)
              by_cases c13 : 0 ≤ (ji12)
              · rw [if_pos c13] at H
                have c13b0 : decide (0 ≤ (ji12)) = true := decide_eq_true c13
                clear c13
                by_cases c14 : (ji12) < (x5_1.length : Int)
                · rw [if_pos c14] at H
                  have c14b0 : decide ((ji12) < (x5_1.length : Int)) = true := decide_eq_true c14
                  (try (have c14x0 := c14b0; simp only [hl5_1] at c14x0))
                  clear c14
                  obtain ⟨y153, hy153⟩ : ∃ y_ : List Int, y_ = (x5_1.set ((ji12) : Int).toNat ((ji11) % 256)) := ⟨_, rfl⟩
                  replace H : (impl_big.l0 k1 a0 a1 y153 (y150.length : Int) (wrap64 (x11_1 + 1))) = some r := by first | (rw [hy153]; with_reducible exact H) | (have H2_ := (Option.bind_some _ _).symm.trans H; rw [hy153]; with_reducible exact H2_) | (have H2_ := (Option.bind_some _ _).symm.trans H; with_reducible exact H2_) | with_reducible exact H | (rw [hy153]; exact H) | exact H
                  have Ny153 := Aside0.mk hy153
                  clear hy153
                  have H' := Aside0.mk H
                  clear H
                  have p15 : 0 ≤ ((ji12) : Int) := of_decide_eq_true (by first | (with_reducible assumption) | assumption)
                  have q15 : ((ji12) : Int) < ((x5_1.length : Int) : Int) := of_decide_eq_true (by first | (with_reducible assumption) | assumption)
                  obtain ⟨go15, co15, eo15, gb15, gl15, cl15, HG15⟩ := Kd.R_form HO_5.out (by omega)
                  (first | cases eo15 | (injection eo15 with ea_ en_ ec_; (first | subst ea_ | (injection ea_ with ea_; subst ea_)); subst ec_; clear en_))
                  have GB15 := Aside0.mk gb15
                  have GG15 := Aside0.mk HG15
                  clear gb15 gl15 HG15
                  obtain ⟨hx15_0, hf15_0⟩ := Kd.R_celln 0 HO_5.out ((ji12) : Int) p15 q15
                  replace p15 := eq_true p15
                  replace q15 := eq_true q15
                  have HP16 := Kd.R_putg HO_5.out ((ji12) : Int) ((ji11) % 256)
                  go_wp2_with (first | ((with_reducible refine gate_store (t := 5) (p := 24) rfl ?_); refine store_event (t := 5) (p := 24) (v := ?vo_w17) (w1 := (wr.setCell ⟨go15, ((ji12) : Int).toNat, none⟩ (.int .u8 ((ji11) % 256)))) ?hg ?ho ?hn ?hr ?_; (case ho => rfl); (case hg => rfl); (case hn => rfl); (case hr => first | (go_simp; done) | (go_simp; rfl)); intro w17 hw; have hg : wr.grownBy w17 (some go15) := (by rw [hw]; exact HP16.2); have hp_ : Kd.R (Kd.int .u8) 5 w17 w.heap.size (fun _ => True) (.slice (some ⟨go15, 0, none⟩) x5_1.length co7) y153 := (by rw [hw, Ny153.out]; exact HP16.1); clear HP16; have n0_ := Aside0.mk (hp_); have n1_ := Aside0.mk ((by rw [hw]; exact below_set (HB.out) GB15.out : Below w.heap.size w w17)); clear HO_5; clear HB; have HO_5 := n0_; have HB := n1_; clear n0_ n1_; clear hg hw hp_))
                  (try simp only [← hl5_1])
                  go_roundg k1
                  case measure => have := HK1.out; omega
                  case rel => exact ⟨(y153), (wrap64 (x11_1 + 1)), (by first | rfl | (simp; done) | (simp [*]; done)), H', ⟨by have := HK1.out; omega⟩, ⟨by (try simp only [hl5_1]); (with_reducible repeat (first | apply Kd.R_alloc | apply Kd.R_drewN | apply Kd.R_drew)); exact HO_5.out⟩, ⟨by repeat (first | (with_reducible first | exact HB.out | apply below_alloc | apply pw_below_drewN | apply below_drew1) | exact HB.out)⟩⟩
                · rw [if_neg c14] at H
                  exact absurd H (by simp)
              · rw [if_neg c13] at H
                exact absurd H (by simp)
            · rw [if_neg c10] at H
              exact absurd H (by simp)
          · rw [if_neg c8] at H
            have c8b0 : decide (x11_1 < (y150.length : Int)) = false := decide_eq_false c8
            (try (have c8x0 := c8b0; simp only [hl5_1] at c8x0))
            clear c8
            obtain rfl := Option.some.inj H
            go_wp2
            go_ret
            exact ⟨_, by first | rfl | (simp [errW_none, errW_some] <;> rfl) | (simp [*, errW_none, errW_some] <;> rfl), by (with_reducible repeat (first | apply Kd.R_alloc | apply Kd.R_drewN | apply Kd.R_drew)); exact HO_5.out, by repeat (first | (with_reducible first | exact HB.out | apply below_alloc | apply pw_below_drewN | apply below_drew1) | exact HB.out)⟩
    · rw [if_neg c4] at H
      exact absurd H (by simp)
  · rw [if_neg c3] at H
    exact absurd H (by simp)

/-! ### impl_firstHash: function 23 -/
def psK : Array (Nat × Value) := (shaK.zipIdx.map fun (v, i) => (i, Value.int .u64 v)).toArray
def z80' : List Int := [0, 0, 0, 0, 0, 0, 0, 0, 0, 0, 0, 0, 0, 0, 0, 0, 0, 0, 0, 0, 0, 0, 0, 0, 0, 0, 0, 0, 0, 0, 0, 0, 0, 0, 0, 0, 0, 0, 0, 0, 0, 0, 0, 0, 0, 0, 0, 0, 0, 0, 0, 0, 0, 0, 0, 0, 0, 0, 0, 0, 0, 0, 0, 0, 0, 0, 0, 0, 0, 0, 0, 0, 0, 0, 0, 0, 0, 0, 0, 0]
def z8h : List Int := [0, 0, 0, 0, 0, 0, 0, 0]
set_option maxHeartbeats 1000000 in
set_option maxRecDepth 100000 in
theorem impl_firstHash.calls (w : World) :
    Calls Try.prog 23 #[] w fun e w' => e = .returned (.agg (arr .u64 shaH)) ∧ Below w.heap.size w w' := by
  have S := Aside0.mk ((St.start w).push rfl 47 .u64 z8h)
  go_enter Try.func23, Try.ntmps23
  go_wp2_with (first
    | (refine st_arr rfl 47 (.tmp 0) (.tmp 1) rfl w.heap.size (xs := shaH) rfl rfl (S.out.blk 0 rfl) (m := 8) (by kernel_rfl) rfl rfl ?_; intro w' h1 h2 h4 h3; have H1 := Aside0.mk h1; have S2 := Aside0.mk (S.out.row 0 rfl h1 h2 h3); clear h1 h2 h3 h4))
  exact bodyPost_ret (results_cell_row Try.results23 _ _ w.heap.size 47 _ (0, 0) _ rfl H1.out Try.underlying47 rfl (by rw [arr_size]; kernel_rfl)) rfl ⟨rfl, S2.out.below⟩


/-! ### impl_rounds: function 24 -/
set_option maxHeartbeats 1000000 in
set_option maxRecDepth 100000 in
theorem impl_rounds.calls (w : World) :
    Calls Try.prog 24 #[] w fun e w' => e = .returned (.agg (arr .u64 shaK)) ∧ Below w.heap.size w w' := by
  have HBD := Aside0.mk (fun W => (show (Instr.build 49 psK).run Try.prog W = .ok (.agg (arr .u64 shaK)) W from by kernel_rfl))
  have hz : ∀ W, (zeroValue 49).run Try.prog W = .ok (.agg (arr .u64 z80')) W := fun W => by kernel_rfl
  have S := Aside0.mk ((St.start w).push rfl 49 .u64 z80')
  go_enter Try.func24, Try.ntmps24
  go_wp2_with (first
    | (fail))
  refine wp_bld rfl psK (by rw [List.map_toArray]; kernel_rfl) (HBD.out _) ?_
  go_wp2_with (first
    | (refine st_arr rfl 49 (.tmp 0) (.tmp 1) rfl w.heap.size (xs := shaK) rfl rfl (S.out.blk 0 rfl) (m := 80) (by kernel_rfl) rfl rfl ?_; intro w' h1 h2 h4 h3; have H1 := Aside0.mk h1; have S2 := Aside0.mk (S.out.row 0 rfl h1 h2 h3); clear h1 h2 h3 h4))
  exact bodyPost_ret (results_cell_row Try.results24 _ _ w.heap.size 49 _ (0, 0) _ rfl H1.out Try.underlying49 rfl (by rw [arr_size]; kernel_rfl)) rfl ⟨rfl, S2.out.below⟩


/-! ### impl_binaryOf: function 30 -/
def impl_binaryOf.l0 : Nat → Int → List Int → Int → Int → Option (Int)
  | 0, _, _, _, _ => none
  | k + 1, x3, x6, x7, x8 => if x8 < x7 then (if 0 ≤ x8 then (if x8 < (x6.length : Int) then (impl_binaryOf.l0 k (Go.bits .or .u64 (IntKind.u64.wrap (x3 * 256)) (IntKind.u64.wrap (rd x6 x8))) x6 x7 (wrap64 (x8 + 1))) else (none)) else (none)) else (some x3)
def impl_binaryOf.f (k : Nat) (l0 : List Int) : Option (Int) := impl_binaryOf.l0 k 0 l0 (l0.length : Int) 0
theorem impl_binaryOf.mono_l : ∀ k, (∀ y0 y1 y2 y3, LeO (impl_binaryOf.l0 k y0 y1 y2 y3) (impl_binaryOf.l0 (k + 1) y0 y1 y2 y3))
  | 0 => fun _ _ _ _ r h => by simp [impl_binaryOf.l0] at h
  | k + 1 => by
    have ih0 := impl_binaryOf.mono_l k
    · intro y0 y1 y2 y3
      unfold impl_binaryOf.l0
      repeat' first
      | (with_reducible exact ih0 _ _ _ _)
      | (with_reducible exact LeO.refl _)
      | (with_reducible exact LeO.none _)
      | (with_reducible refine LeO.ite ?_ ?_)
      | (with_reducible refine LeO.bind ?_ (fun _ => ?_))
      | exact ih0 _ _ _ _
      | exact LeO.none _
      | refine LeO.ite ?_ ?_
      | refine LeO.bind ?_ (fun _ => ?_)
theorem impl_binaryOf.mono : ∀ a0 k, LeO (impl_binaryOf.f k a0) (impl_binaryOf.f (k + 1) a0) := by
  intro a0 k
  have ih0 := impl_binaryOf.mono_l k
  unfold impl_binaryOf.f
  repeat' first
      | (with_reducible exact ih0 _ _ _ _)
      | (with_reducible exact LeO.refl _)
      | (with_reducible exact LeO.none _)
      | (with_reducible refine LeO.ite ?_ ?_)
      | (with_reducible refine LeO.bind ?_ (fun _ => ?_))
      | exact ih0 _ _ _ _
      | exact LeO.none _
      | refine LeO.ite ?_ ?_
      | refine LeO.bind ?_ (fun _ => ?_)
set_option maxHeartbeats 8000000 in
set_option maxRecDepth 100000 in
theorem impl_binaryOf.calls (k : Nat) (A0 : Option Addr) (c0 : Nat) (l0 : List Int) (r : Int) (w : World) (hr0 : Kd.C (Kd.int .u8) w A0 l0.length l0) (hc0 : l0.length ≤ c0) (h : impl_binaryOf.f k l0 = some r) :
    Calls Try.prog 30 #[.slice A0 l0.length c0] w fun e w' => e = .returned (.int .u64 r) ∧ Drawn0 w w' := by
  have HR0 := Aside0.mk hr0
  have HC0 := Aside0.mk hc0
  clear hr0 hc0
  have H : (impl_binaryOf.l0 k 0 l0 (l0.length : Int) 0) = some r := h
  clear h
  have H' := Aside0.mk H
  clear H
  go_enter Try.func30, Try.ntmps30
  go_wp2
  go_loopg [3, 8] k (fun kq v3 v8 w' => ∃ (x3_1 : Int) (x8_1 : Int), v3 = .int .u64 x3_1 ∧ v8 = .int .i64 x8_1 ∧ Aside0 (impl_binaryOf.l0 kq x3_1 l0 (l0.length : Int) x8_1 = some r) ∧ Aside0 (kq ≤ k) ∧ Drawn0 w w')
  case atStart => exact ⟨(0), (0), (by first | rfl | (simp; done) | (simp [*]; done)), (by first | rfl | (simp; done) | (simp [*]; done)), H', ⟨Nat.le_refl _⟩, by repeat (first | exact Drawn0.refl _ | apply Drawn0.step)⟩
  case round =>
    clear H'
    obtain ⟨x3_1, x8_1, rfl, rfl, HA, HK1, ⟨m1, rfl⟩⟩ := hrel
    cases gk with
    | zero => exact absurd HA.out (by simp [impl_binaryOf.l0])
    | succ k1 =>
      have H := HA.out
      clear HA
      simp only [impl_binaryOf.l0] at H
      by_cases c2 : x8_1 < (l0.length : Int)
      · rw [if_pos c2] at H
        have c2b0 : decide (x8_1 < (l0.length : Int)) = true := decide_eq_true c2
        clear c2
        by_cases c3 : 0 ≤ x8_1
        · rw [if_pos c3] at H
          have c3b0 : decide (0 ≤ x8_1) = true := decide_eq_true c3
          clear c3
          by_cases c4 : x8_1 < (l0.length : Int)
          · rw [if_pos c4] at H
            have c4b0 : decide (x8_1 < (l0.length : Int)) = true := decide_eq_true c4
            clear c4
            have H' := Aside0.mk H
            clear H
            have p154 : 0 ≤ (x8_1 : Int) := of_decide_eq_true (by first | (with_reducible assumption) | assumption)
            have q154 : x8_1 < (l0.length : Int) := of_decide_eq_true (by first | (with_reducible assumption) | assumption)
            obtain ⟨ad154, e154, hx154_0⟩ := Kd.at_int HR0.out x8_1 p154 q154
            cases e154
            replace p154 := eq_true p154
            replace q154 := eq_true q154
            go_wp2
            go_roundg k1
            case measure => have := HK1.out; omega
            case rel => exact ⟨(Go.bits .or .u64 (IntKind.u64.wrap (x3_1 * 256)) (IntKind.u64.wrap (rd l0 x8_1))), (wrap64 (x8_1 + 1)), (by first | rfl | (simp; done) | (simp [*]; done)), (by first | rfl | (simp; done) | (simp [*]; done)), H', ⟨by have := HK1.out; omega⟩, by repeat (first | exact Drawn0.refl _ | apply Drawn0.step)⟩
          · rw [if_neg c4] at H
            exact absurd H (by simp)
        · rw [if_neg c3] at H
          exact absurd H (by simp)
      · rw [if_neg c2] at H
        have c2b0 : decide (x8_1 < (l0.length : Int)) = false := decide_eq_false c2
        clear c2
        obtain rfl := Option.some.inj H
        go_wp2
        go_ret
        exact ⟨by first | rfl | (simp; done) | (simp [*]; done), by repeat (first | exact Drawn0.refl _ | apply Drawn0.step)⟩

/-! ### bits_RotateLeft64: function 37 -/
def bits_RotateLeft64.f (a0 : Int) (a1 : Int) : Option (Int) := if 0 ≤ (Go.bits .and .u64 (IntKind.u64.wrap (a1)) 63) then (if 0 ≤ (IntKind.u64.wrap (64 - (Go.bits .and .u64 (IntKind.u64.wrap (a1)) 63))) then (some (Go.bits .or .u64 (shl .u64 a0 (Go.bits .and .u64 (IntKind.u64.wrap (a1)) 63)) (shr .u64 a0 (IntKind.u64.wrap (64 - (Go.bits .and .u64 (IntKind.u64.wrap (a1)) 63)))))) else (none)) else (none)
set_option maxHeartbeats 8000000 in
set_option maxRecDepth 100000 in
theorem bits_RotateLeft64.calls (a0 : Int) (a1 : Int) (r : Int) (w : World) (h : bits_RotateLeft64.f a0 a1 = some r) :
    Calls Try.prog 37 #[.int .u64 a0, .int .i64 a1] w fun e w' => e = .returned (.int .u64 r) ∧ Drawn0 w w' := by
  have H : (if 0 ≤ (Go.bits .and .u64 (IntKind.u64.wrap (a1)) 63) then (if 0 ≤ (IntKind.u64.wrap (64 - (Go.bits .and .u64 (IntKind.u64.wrap (a1)) 63))) then (some (Go.bits .or .u64 (shl .u64 a0 (Go.bits .and .u64 (IntKind.u64.wrap (a1)) 63)) (shr .u64 a0 (IntKind.u64.wrap (64 - (Go.bits .and .u64 (IntKind.u64.wrap (a1)) 63)))))) else (none)) else (none)) = some r := h
  clear h
  obtain ⟨ji3, hji3⟩ : ∃ j_ : Int, (Go.bits .and .u64 (IntKind.u64.wrap (a1)) 63) = j_ := ⟨_, rfl⟩
  replace H : (if 0 ≤ (ji3) then (if 0 ≤ (IntKind.u64.wrap (64 - (ji3))) then (some (Go.bits .or .u64 (shl .u64 a0 (ji3)) (shr .u64 a0 (IntKind.u64.wrap (64 - (ji3)))))) else (none)) else (none)) = some r := by first | (rw [hji3] at H; exact H) | (simp only [hji3] at H ⊢; exact H)
  by_cases c4 : 0 ≤ (ji3)
  · rw [if_pos c4] at H
    have c4b0 := eq_true c4
    have c4b1 : decide (0 ≤ (ji3)) = true := decide_eq_true c4
    clear c4
    obtain ⟨ji5, hji5⟩ : ∃ j_ : Int, (shl .u64 a0 (ji3)) = j_ := ⟨_, rfl⟩
    replace H : (if 0 ≤ (IntKind.u64.wrap (64 - (ji3))) then (some (Go.bits .or .u64 (ji5) (shr .u64 a0 (IntKind.u64.wrap (64 - (ji3)))))) else (none)) = some r := by first | (rw [hji5] at H; exact H) | (simp only [hji5] at H ⊢; exact H)
    have hji5_ : (IntKind.u64.wrap (a0 * 2 ^ min (ji3).toNat 64)) = ji5 := hji5
    have hji5z : (ji3) ≤ 64 → (IntKind.u64.wrap (a0 * 2 ^ (ji3).toNat)) = ji5 := shl_small hji5
    obtain ⟨ji6, hji6⟩ : ∃ j_ : Int, (IntKind.u64.wrap (64 - (ji3))) = j_ := ⟨_, rfl⟩
    replace H : (if 0 ≤ (ji6) then (some (Go.bits .or .u64 (ji5) (shr .u64 a0 (ji6)))) else (none)) = some r := by first | (rw [hji6] at H; exact H) | (simp only [hji6] at H ⊢; exact H)
    by_cases c7 : 0 ≤ (ji6)
    · rw [if_pos c7] at H
      have c7b0 := eq_true c7
      have c7b1 : decide (0 ≤ (ji6)) = true := decide_eq_true c7
      clear c7
      obtain ⟨ji8, hji8⟩ : ∃ j_ : Int, (shr .u64 a0 (ji6)) = j_ := ⟨_, rfl⟩
      replace H : (some (Go.bits .or .u64 (ji5) (ji8))) = some r := by first | (rw [hji8] at H; exact H) | (simp only [hji8] at H ⊢; exact H)
      have hji8_ : (a0 / 2 ^ min (ji6).toNat 64) = ji8 := hji8
      have hji8z : (ji6) ≤ 64 → (a0 / 2 ^ (ji6).toNat) = ji8 := shr_small hji8
      obtain rfl := Option.some.inj H
      go_enter Try.func37, Try.ntmps37
      go_wp2
      go_ret
      exact ⟨by first | rfl | (simp; done) | (simp only [← hji3, ← hji5, ← hji6, ← hji8] <;> (first | rfl | simp)) | (simp [*]; done), by repeat (first | exact Drawn0.refl _ | apply Drawn0.step)⟩
    · rw [if_neg c7] at H
      exact absurd H (by simp)
  · rw [if_neg c4] at H
    exact absurd H (by simp)

/-! ### impl_right: function 31 -/
def impl_right.f (a0 : Int) (a1 : Int) : Option (Int) := (bits_RotateLeft64.f a0 (wrap64 (-a1))).bind fun t155 => (some t155)
set_option maxHeartbeats 8000000 in
set_option maxRecDepth 100000 in
theorem impl_right.calls (a0 : Int) (a1 : Int) (r : Int) (w : World) (h : impl_right.f a0 a1 = some r) :
    Calls Try.prog 31 #[.int .u64 a0, .int .i64 a1] w fun e w' => e = .returned (.int .u64 r) ∧ Drawn0 w w' := by
  have H : ((bits_RotateLeft64.f a0 (wrap64 (-a1))).bind fun t155 => (some t155)) = some r := h
  clear h
  replace H := Option.bind_eq_some_iff.mp H
  obtain ⟨t155, A30, H⟩ := H
  replace H : (some t155) = some r := H
  have A3 := Aside0.mk A30
  clear A30
  obtain rfl := Option.some.inj H
  go_enter Try.func31, Try.ntmps31
  go_wp2_with (first | ((with_reducible refine gate_callee (f := 37) rfl ?_); refine goesL_ (some 8) rfl rfl Try.func37 (by kernel_rfl) rfl #[.int .u64 a0, .int .i64 (wrap64 (-a1))] rfl (by (try simp only [List.map_toArray, List.map_cons, List.map_nil]); first | done | rfl | (simp only [List.length_drop, List.length_take]; rfl)) ?_; (with_reducible refine (bits_RotateLeft64.calls a0 (wrap64 (-a1)) t155 _ A3.out).mono ?_); rintro e w' ⟨rfl, ⟨nd, rfl⟩⟩; refine ⟨_, rfl, ?_⟩))
  go_ret
  exact ⟨by first | rfl | (simp; done) | (simp [*]; done), by repeat (first | exact Drawn0.refl _ | apply Drawn0.step)⟩

end Go.Proofs.Ytlphppkhihabdaa.XN
