-- Written by a program of this session (xp.py over the kit's printer, with functions proved by hand). Lean checks it.
import Derived.Test.YtlphppkhihabdaaXNx0
import Derived.Test.YtlphppkhihabdaaXNx5
namespace Go.Proofs.Ytlphppkhihabdaa.XN
open Go.Proofs.Ytlphppkhihabdaa.Limb Go.Proofs.Ytlphppkhihabdaa.Arr Go.Proofs.Ytlphppkhihabdaa.FldA Go.Proofs.Ytlphppkhihabdaa.FldB Go.Proofs.Ytlphppkhihabdaa.FldC Go.Proofs.Ytlphppkhihabdaa.FldS Go.Proofs.Ytlphppkhihabdaa.St Go.Proofs.Ytlphppkhihabdaa.OpenS Go.Proofs.Ytlphppkhihabdaa.StOps Go.Proofs.Ytlphppkhihabdaa.StMid Go.Proofs.Ytlphppkhihabdaa.StIdx Go.Proofs.Ytlphppkhihabdaa.StPt Go.Proofs.Ytlphppkhihabdaa.StBd Go.Proofs.Ytlphppkhihabdaa.ShaA Go.Proofs.Ytlphppkhihabdaa.ShaB Go.Proofs.Ytlphppkhihabdaa.ShaS
open Go.RowKit Go.Proofs.YtlphppkhihabdaaW.PrintWords Go.Proofs.YtlphppkhihabdaaW.PrintLast Go.Proofs.YtlphppkhihabdaaW.PrintMore
attribute [local go_sem] max2_int min2_int max_two min_two max_three min_three max_four min_four   -- for this text's walks alone
set_option linter.unusedVariables false
set_option linter.unusedSimpArgs false

/-! ### impl_hashed: function 25 -/
theorem drawn_below {w w' : World} (h : Drawn0 w w') : Below w.heap.size w w' := by
  obtain ⟨m, rfl⟩ := h
  exact pw_below_drewN (Below.refl _ _) m
theorem bits_or_comm (a b : Int) : bits .or .u64 a b = bits .or .u64 b a := by
  unfold bits
  simp only [BitVec.or_comm]
theorem shr7 (x : Int) : shr .u64 x 7 = x / 128 := rfl
theorem shr6 (x : Int) : shr .u64 x 6 = x / 64 := rfl
theorem right_calls (x : Int) (n : Nat) (w : World) (h0 : 0 < n) (h1 : n < 64) : Calls Try.prog 31 #[.int .u64 x, .int .i64 (n : Int)] w fun e w' => e = .returned (.int .u64 (rr x n)) ∧ Drawn0 w w' :=
  impl_right.calls x n (rr x n) w (by
    have hk : ∀ m : Nat, m < 64 → 0 < m → Go.bits .and .u64 (IntKind.u64.wrap (wrap64 (-(m : Int)))) 63 = ((64 - m : Nat) : Int) := by decide +kernel
    have hk2 : ∀ m : Nat, m < 64 → 0 < m → IntKind.u64.wrap (64 - ((64 - m : Nat) : Int)) = (m : Int) := by decide +kernel
    unfold impl_right.f bits_RotateLeft64.f
    rw [hk n h1 h0, hk2 n h1 h0, if_pos (by omega), if_pos (by omega), Option.bind_some, bits_or_comm]
    rfl)
theorem bld8 (a b c d e f g h : Int) (W : World) : (Instr.build 47 #[(0, .int .u64 a), (1, .int .u64 b), (2, .int .u64 c), (3, .int .u64 d), (4, .int .u64 e), (5, .int .u64 f), (6, .int .u64 g), (7, .int .u64 h)]).run Try.prog W = .ok (.agg (arr .u64 [a, b, c, d, e, f, g, h])) W := by kernel_rfl
theorem at_list {P : Program} {ops : Array Oper} {Q : Exit → Act → World → Prop} {a : Act} {w : World} {rest : List Oper} {o : Oper} (h : wpList P ops Q (o :: rest) a w) : wpList P ops Q (o :: rest) a w := h
theorem w64n (n : Nat) (h : (n : Int) < 80) : wrap64 (n : Int) = (n : Int) := by unfold wrap64; omega
theorem binaryOf_l0 (l : List Int) (hl : l.length = 8) (d : Nat) : ∀ i : Nat, i + d = 8 → impl_binaryOf.l0 (d + 1) (bin8 l i) l 8 (i : Int) = some (bin8 l 8) := by
  induction d with
  | zero =>
    intro i hi
    obtain rfl : i = 8 := by omega
    rw [impl_binaryOf.l0, if_neg (by omega)]
  | succ d ih =>
    intro i hi
    rw [impl_binaryOf.l0, if_pos (by omega), if_pos (by omega), if_pos (by omega)]
    have := ih (i + 1) (by omega)
    rw [show wrap64 ((i : Int) + 1) = ((i + 1 : Nat) : Int) by unfold wrap64; omega]
    rw [show rd l (i : Int) = l.getD i 0 by simp [rd]]
    exact this
theorem binaryOf_8 (l : List Int) (hl : l.length = 8) : impl_binaryOf.f 9 l = some (bin8 l 8) := by
  unfold impl_binaryOf.f
  rw [hl]
  exact binaryOf_l0 l hl 8 0 rfl
set_option maxHeartbeats 40000000 in
set_option maxRecDepth 100000 in
theorem impl_hashed.calls (A : Option Addr) (c : Nat) (h b K : List Int) (gK : Nat) (w : World) (hr : Kd.C (Kd.int .u8) w A 128 b) (hc : 128 ≤ c) (hb : b.length = 128) (hh : h.length = 8) (hK : K.length = 80) (hgk : w.heap[gK]? = some (.cells (arr .u64 K) 49 (0, 0))) :
    Calls Try.prog 25 #[.agg (arr .u64 h), .slice A 128 c, .pointer (some ⟨gK, 0, none⟩)] w fun e w' => e = .returned (.agg (arr .u64 (blkH K h b))) ∧ Below w.heap.size w w' := by
  have hz : ∀ W, (zeroValue 49).run Try.prog W = .ok (.agg (arr .u64 ShaA.z80)) W := fun W => by kernel_rfl
  have S := Aside0.mk ((((St.start w).push rfl 47 .u64 h).push (World.size_alloc ..) 47 .u64 z8).push (by rw [World.size_alloc, World.size_alloc]; rfl) 49 .u64 ShaA.z80)
  have HR := Aside0.mk hr
  have HC := Aside0.mk hc
  have HB := Aside0.mk hb
  have HH := Aside0.mk hh
  have HKL := Aside0.mk hK
  have HGK := Aside0.mk hgk
  clear hr hb hh hK hgk
  go_enter Try.func25, Try.ntmps25
  go_wp2
  as_aux_lemma =>
    go_loopg [8, 23] 17 (fun gg _ v23 wr => ∃ k : Nat, k ≤ 16 ∧ 16 - k ≤ gg ∧ v23 = .int .i64 k ∧ Aside0 (St w [⟨47, .u64, h⟩, ⟨47, .u64, z8⟩, ⟨49, .u64, wA b k⟩] wr))
    case atStart => exact ⟨0, by omega, by omega, rfl, S⟩
    case round =>
      obtain ⟨k, hk, hg, rfl, S⟩ := hrel
      by_cases hlt : k < 16
      · have hlti : (k : Int) < 16 := by omega
        have e8 : 8 * (k : Int) = ((8 * k : Nat) : Int) := by omega
        have HCM : Aside0 (Kd.C (Kd.int .u8) wr (A.map fun x => x.add (8 * k)) 8 (cut8 b k)) := ⟨by
          have h1 := Kd.C_below HR.out S.out.below
          rw [← HB.out] at h1
          have h2 := Kd.C_mid (lo := 8 * k) (hi := 8 * k + 8) (c := c) h1 (by omega) (by have := HB.out; omega) (by have := HB.out; omega)
          rw [if_neg (by omega)] at h2
          have h3 := cut8_length b HB.out k hlt
          unfold cut8 at h3 ⊢
          rw [h3] at h2
          rw [Nat.mul_comm 8 k] at h2 ⊢
          simpa [Nat.mul_one, show (Kd.int IntKind.u8).sz = 1 from rfl] using h2⟩
        have HBO := Aside0.mk (fun W (hW : Kd.C (Kd.int .u8) W (A.map fun x => x.add (8 * k)) 8 (cut8 b k)) => (show Calls Try.prog 30 #[.slice (A.map fun x => x.add (8 * k)) 8 (c - 8 * k)] W fun e w' => e = .returned (.int .u64 (bin8 (cut8 b k) 8)) ∧ Drawn0 W w' from by
          have h3 := cut8_length b HB.out k hlt
          have h4 := impl_binaryOf.calls 9 (A.map fun x => x.add (8 * k)) (c - 8 * k) (cut8 b k) (bin8 (cut8 b k) 8) W (by rw [h3]; exact hW) (by rw [h3]; omega) (binaryOf_8 _ h3)
          rw [h3] at h4
          exact h4))
        have EQ := Aside0.mk (show wA b (k + 1) = (wA b k).set k (bin8 (cut8 b k) 8) from rfl)
        generalize bin8 (cut8 b k) 8 = v at *
        clear e8
        go_wp2_with (first
          | ((with_reducible refine (HBO.out _ HCM.out).mono ?_); rintro e w3 ⟨rfl, hd⟩; have S3 := Aside0.mk (S.out.step (drawn_below hd)); have hc1 := S3.out.cell 2 rfl k (by rw [wA_length]; omega); have hf1 := blk_frozen (S3.out.blk 2 rfl) k; clear hd))
        go_roundg (16 - (k + 1))
        case measure => omega
        case rel => exact ⟨k + 1, by omega, by omega, by go_num, by rw [EQ.out]; exact ⟨S3.out.set 2 rfl k v⟩⟩
      · obtain rfl : k = 16 := by omega
        have hneg : ¬ ((16 : Nat) : Int) < 16 := by omega
        as_aux_lemma =>
          clear hlt hg hk
          go_wp2
          as_aux_lemma =>
            go_loopg [9, 10, 11] 65 (fun gg v9 _ _ wr => ∃ i : Nat, 16 ≤ i ∧ i ≤ 80 ∧ 80 - i ≤ gg ∧ v9 = .int .i64 i ∧ Aside0 (St w [⟨47, .u64, h⟩, ⟨47, .u64, z8⟩, ⟨49, .u64, wB b (i - 16)⟩] wr))
            case atStart => exact ⟨16, by omega, by omega, by omega, rfl, S⟩
            case round =>
              clear S
              obtain ⟨i, hi0, hi, hg, rfl, S⟩ := hrel
              by_cases hlt : i < 80
              · have hlti : (i : Int) < 80 := by omega
                have HWL := Aside0.mk (wB_length b (i - 16))
                have EQ := Aside0.mk (show wB b (i + 1 - 16) = (wB b (i - 16)).set i (wNx (wB b (i - 16)) i) by
                  rw [show i + 1 - 16 = (i - 16) + 1 by omega, wB, show i - 16 + 16 = i by omega])
                unfold wNx at EQ
                generalize wB b (i - 16) = Ws at *
                obtain ⟨n15, h15⟩ : ∃ n, n = i - 15 := ⟨_, rfl⟩
                obtain ⟨n2, h2⟩ : ∃ n, n = i - 2 := ⟨_, rfl⟩
                obtain ⟨n16, h16⟩ : ∃ n, n = i - 16 := ⟨_, rfl⟩
                obtain ⟨n7, h7⟩ : ∃ n, n = i - 7 := ⟨_, rfl⟩
                rw [← h15, ← h2, ← h16, ← h7] at EQ
                have i15 : (i : Int) - 15 = (n15 : Int) := by omega
                have i2 : (i : Int) - 2 = (n2 : Int) := by omega
                have i16 : (i : Int) - 16 = (n16 : Int) := by omega
                have i7 : (i : Int) - 7 = (n7 : Int) := by omega
                have l15 : (n15 : Int) < 80 := by omega
                have l2 : (n2 : Int) < 80 := by omega
                have l16 : (n16 : Int) < 80 := by omega
                have l7 : (n7 : Int) < 80 := by omega
                obtain ⟨x, hx⟩ : ∃ x, x = Ws.getD n15 0 := ⟨_, rfl⟩
                obtain ⟨y, hy⟩ : ∃ x, x = Ws.getD n2 0 := ⟨_, rfl⟩
                obtain ⟨a, ha⟩ : ∃ x, x = Ws.getD n16 0 := ⟨_, rfl⟩
                obtain ⟨c7, hc7⟩ : ∃ x, x = Ws.getD n7 0 := ⟨_, rfl⟩
                have hc15 := S.out.cell 2 rfl n15 (by rw [HWL.out]; omega)
                have hc2 := S.out.cell 2 rfl n2 (by rw [HWL.out]; omega)
                rw [← hx] at hc15
                rw [← hy] at hc2
                rw [← hx, ← hy, ← ha, ← hc7] at EQ
                have HA := Aside0.mk ha
                have HC7 := Aside0.mk hc7
                have L16 := Aside0.mk (show n16 < Ws.length by rw [HWL.out]; omega)
                have L7 := Aside0.mk (show n7 < Ws.length by rw [HWL.out]; omega)
                have LI := Aside0.mk (show i < Ws.length by rw [HWL.out]; omega)
                clear h15 h2 h16 h7 hx hy ha hc7
                have R1 := Aside0.mk (fun W => (show Calls Try.prog 31 #[.int .u64 x, .int .i64 1] W fun e w' => e = .returned (.int .u64 (rr x 1)) ∧ Drawn0 W w' from right_calls x 1 W (by decide) (by decide)))
                have R8 := Aside0.mk (fun W => (show Calls Try.prog 31 #[.int .u64 x, .int .i64 8] W fun e w' => e = .returned (.int .u64 (rr x 8)) ∧ Drawn0 W w' from right_calls x 8 W (by decide) (by decide)))
                have R19 := Aside0.mk (fun W => (show Calls Try.prog 31 #[.int .u64 y, .int .i64 19] W fun e w' => e = .returned (.int .u64 (rr y 19)) ∧ Drawn0 W w' from right_calls y 19 W (by decide) (by decide)))
                have R61 := Aside0.mk (fun W => (show Calls Try.prog 31 #[.int .u64 y, .int .i64 61] W fun e w' => e = .returned (.int .u64 (rr y 61)) ∧ Drawn0 W w' from right_calls y 61 W (by decide) (by decide)))
                unfold sA sB at EQ
                rw [shr7, shr6] at EQ
                unfold w6 at EQ
                generalize rr x 1 = r1 at *
                generalize rr x 8 = r8 at *
                generalize rr y 19 = r19 at *
                generalize rr y 61 = r61 at *
                go_wp2
                go_region
                clear hc15 hc2
                go_wp2
                obtain ⟨p1, hx⟩ : ∃ p, bits .xor .u64 r1 r8 = p := ⟨_, rfl⟩
                rw [hx] at EQ
                have X1 := Aside0.mk hx
                clear hx
                obtain ⟨p2, hx⟩ : ∃ p, x / 128 = p := ⟨_, rfl⟩
                rw [hx] at EQ
                have X2 := Aside0.mk hx
                clear hx
                obtain ⟨p3, hx⟩ : ∃ p, bits .xor .u64 p1 p2 = p := ⟨_, rfl⟩
                rw [hx] at EQ
                have X3 := Aside0.mk hx
                clear hx
                obtain ⟨p4, hx⟩ : ∃ p, IntKind.u64.wrap (a + p3) = p := ⟨_, rfl⟩
                rw [hx] at EQ
                have X4 := Aside0.mk hx
                clear hx
                obtain ⟨p5, hx⟩ : ∃ p, IntKind.u64.wrap (p4 + c7) = p := ⟨_, rfl⟩
                rw [hx] at EQ
                have X5 := Aside0.mk hx
                clear hx
                obtain ⟨p6, hx⟩ : ∃ p, bits .xor .u64 r19 r61 = p := ⟨_, rfl⟩
                rw [hx] at EQ
                have X6 := Aside0.mk hx
                clear hx
                obtain ⟨p7, hx⟩ : ∃ p, y / 64 = p := ⟨_, rfl⟩
                rw [hx] at EQ
                have X7 := Aside0.mk hx
                clear hx
                obtain ⟨p8, hx⟩ : ∃ p, bits .xor .u64 p6 p7 = p := ⟨_, rfl⟩
                rw [hx] at EQ
                have X8 := Aside0.mk hx
                clear hx
                obtain ⟨p9, hx⟩ : ∃ p, IntKind.u64.wrap (p5 + p8) = p := ⟨_, rfl⟩
                rw [hx] at EQ
                have X9 := Aside0.mk hx
                clear hx
                have v15 := w64n n15 l15
                have v2 := w64n n2 l2
                have v16 := w64n n16 l16
                have v7 := w64n n7 l7
                have V0 := Aside0.mk S.out.drew.drew
                refine start_ (n := 30) (S := fun w' => St w [⟨47, .u64, h⟩, ⟨47, .u64, z8⟩, ⟨49, .u64, Ws⟩] w') (ds := [29]) #[false, false, false, false, false, false, false, false, false, false, false, false, false, false, false, false, false, false, false, false, false, false, false, false, false, false, false, false, false, false] (by kernel_rfl) rfl rfl (V0.out) (fun hHeld => ?_)
                refine pure_ (i := 0) (N := some 49) (v := ?_) (a' := ?_) #[true, false, false, false, false, false, false, false, false, false, false, false, false, false, false, false, false, false, false, false, false, false, false, false, false, false, false, false, false, false] rfl rfl (by kernel_rfl) (fun _ _ _ h => h) (Or.inl ⟨by rfl, ?_⟩) ?_ ?_
                rotate_left
                · intro w'; go_simp; with_reducible rfl
                rotate_left
                · simp only [Act.put, OpenRow.s1, OpenRow.s2, OpenRow.s3, i64_w, i32_w]; rfl
                refine pure_ (i := 1) (N := some 50) (v := ?_) (a' := ?_) #[true, true, false, false, false, false, false, false, false, false, false, false, false, false, false, false, false, false, false, false, false, false, false, false, false, false, false, false, false, false] rfl rfl (by kernel_rfl) (fun _ _ _ h => h) (Or.inl ⟨by rfl, ?_⟩) ?_ ?_
                rotate_left
                · intro w'; go_simp; with_reducible rfl
                rotate_left
                · simp only [Act.put, OpenRow.s1, OpenRow.s2, OpenRow.s3, i64_w, i32_w]; rfl
                refine pure_ (i := 2) (N := some 51) (v := ?_) (a' := ?_) #[true, true, true, false, false, false, false, false, false, false, false, false, false, false, false, false, false, false, false, false, false, false, false, false, false, false, false, false, false, false] rfl rfl (by kernel_rfl) (fun _ _ _ h => h) (Or.inl ⟨by rfl, ?_⟩) ?_ ?_
                rotate_left
                · intro w'; go_simp; with_reducible rfl
                rotate_left
                · simp only [Act.put, OpenRow.s1, OpenRow.s2, OpenRow.s3, i64_w, i32_w]; rfl
                refine pure_ (i := 3) (N := some 52) (v := ?_) (a' := ?_) #[true, true, true, true, false, false, false, false, false, false, false, false, false, false, false, false, false, false, false, false, false, false, false, false, false, false, false, false, false, false] rfl rfl (by kernel_rfl) (fun _ _ _ h => h) (Or.inl ⟨by rfl, ?_⟩) ?_ ?_
                rotate_left
                · intro w'; go_simp; with_reducible rfl
                rotate_left
                · simp only [Act.put, OpenRow.s1, OpenRow.s2, OpenRow.s3, i64_w, i32_w]; rfl
                refine pure_ (i := 5) (N := some 54) (v := ?_) (a' := ?_) #[true, true, true, true, false, true, false, false, false, false, false, false, false, false, false, false, false, false, false, false, false, false, false, false, false, false, false, false, false, false] rfl rfl (by kernel_rfl) (fun _ _ _ h => h) (Or.inl ⟨by rfl, ?_⟩) ?_ ?_
                rotate_left
                · intro w'; go_simp; with_reducible rfl
                rotate_left
                · simp only [Act.put, OpenRow.s1, OpenRow.s2, OpenRow.s3, i64_w, i32_w]; rfl
                refine pure_ (i := 7) (N := some 56) (v := ?_) (a' := ?_) #[true, true, true, true, false, true, false, true, false, false, false, false, false, false, false, false, false, false, false, false, false, false, false, false, false, false, false, false, false, false] rfl rfl (by kernel_rfl) (fun _ _ _ h => h) (Or.inl ⟨by rfl, ?_⟩) ?_ ?_
                rotate_left
                · intro w'; go_simp; with_reducible rfl
                rotate_left
                · simp only [Act.put, OpenRow.s1, OpenRow.s2, OpenRow.s3, i64_w, i32_w]; rfl
                refine pure_ (i := 10) (N := some 59) (v := ?_) (a' := ?_) #[true, true, true, true, false, true, false, true, false, false, true, false, false, false, false, false, false, false, false, false, false, false, false, false, false, false, false, false, false, false] rfl rfl (by kernel_rfl) (fun _ _ _ h => h) (Or.inl ⟨by rfl, ?_⟩) ?_ ?_
                rotate_left
                · intro w'; go_simp; with_reducible rfl
                rotate_left
                · simp only [Act.put, OpenRow.s1, OpenRow.s2, OpenRow.s3, i64_w, i32_w]; rfl
                as_aux_lemma =>
                  refine pure_ (i := 11) (N := some 60) (v := ?_) (a' := ?_) #[true, true, true, true, false, true, false, true, false, false, true, true, false, false, false, false, false, false, false, false, false, false, false, false, false, false, false, false, false, false] rfl rfl (by kernel_rfl) (fun _ _ _ h => h) (Or.inl ⟨by rfl, ?_⟩) ?_ ?_
                  rotate_left
                  · intro w'
                    go_simp; rw [X2.out]; all_goals with_reducible rfl
                  rotate_left
                  · simp only [Act.put, OpenRow.s1, OpenRow.s2, OpenRow.s3, i64_w, i32_w]; rfl
                  refine pure_ (i := 14) (N := some 63) (v := ?_) (a' := ?_) #[true, true, true, true, false, true, false, true, false, false, true, true, false, false, true, false, false, false, false, false, false, false, false, false, false, false, false, false, false, false] rfl rfl (by kernel_rfl) (fun _ _ _ h => h) (Or.inl ⟨by rfl, ?_⟩) ?_ ?_
                  rotate_left
                  · intro w'; go_simp; with_reducible rfl
                  rotate_left
                  · simp only [Act.put, OpenRow.s1, OpenRow.s2, OpenRow.s3, i64_w, i32_w]; rfl
                  refine pure_ (i := 15) (N := some 64) (v := ?_) (a' := ?_) #[true, true, true, true, false, true, false, true, false, false, true, true, false, false, true, true, false, false, false, false, false, false, false, false, false, false, false, false, false, false] rfl rfl (by kernel_rfl) (fun _ _ _ h => h) (Or.inl ⟨by rfl, ?_⟩) ?_ ?_
                  rotate_left
                  · intro w'; go_simp; with_reducible rfl
                  rotate_left
                  · simp only [Act.put, OpenRow.s1, OpenRow.s2, OpenRow.s3, i64_w, i32_w]; rfl
                  refine pure_ (i := 16) (N := some 65) (v := ?_) (a' := ?_) #[true, true, true, true, false, true, false, true, false, false, true, true, false, false, true, true, true, false, false, false, false, false, false, false, false, false, false, false, false, false] rfl rfl (by kernel_rfl) (fun _ _ _ h => h) (Or.inl ⟨by rfl, ?_⟩) ?_ ?_
                  rotate_left
                  · intro w'; go_simp; with_reducible rfl
                  rotate_left
                  · simp only [Act.put, OpenRow.s1, OpenRow.s2, OpenRow.s3, i64_w, i32_w]; rfl
                  refine pure_ (i := 19) (N := some 68) (v := ?_) (a' := ?_) #[true, true, true, true, false, true, false, true, false, false, true, true, false, false, true, true, true, false, false, true, false, false, false, false, false, false, false, false, false, false] rfl rfl (by kernel_rfl) (fun _ _ _ h => h) (Or.inl ⟨by rfl, ?_⟩) ?_ ?_
                  rotate_left
                  · intro w'; go_simp; with_reducible rfl
                  rotate_left
                  · simp only [Act.put, OpenRow.s1, OpenRow.s2, OpenRow.s3, i64_w, i32_w]; rfl
                  refine pure_ (i := 21) (N := some 70) (v := ?_) (a' := ?_) #[true, true, true, true, false, true, false, true, false, false, true, true, false, false, true, true, true, false, false, true, false, true, false, false, false, false, false, false, false, false] rfl rfl (by kernel_rfl) (fun _ _ _ h => h) (Or.inl ⟨by rfl, ?_⟩) ?_ ?_
                  rotate_left
                  · intro w'; go_simp; with_reducible rfl
                  rotate_left
                  · simp only [Act.put, OpenRow.s1, OpenRow.s2, OpenRow.s3, i64_w, i32_w]; rfl
                  refine pure_ (i := 24) (N := some 73) (v := ?_) (a' := ?_) #[true, true, true, true, false, true, false, true, false, false, true, true, false, false, true, true, true, false, false, true, false, true, false, false, true, false, false, false, false, false] rfl rfl (by kernel_rfl) (fun _ _ _ h => h) (Or.inl ⟨by rfl, ?_⟩) ?_ ?_
                  rotate_left
                  · intro w'; go_simp; with_reducible rfl
                  rotate_left
                  · simp only [Act.put, OpenRow.s1, OpenRow.s2, OpenRow.s3, i64_w, i32_w]; rfl
                  refine pure_ (i := 25) (N := some 74) (v := ?_) (a' := ?_) #[true, true, true, true, false, true, false, true, false, false, true, true, false, false, true, true, true, false, false, true, false, true, false, false, true, true, false, false, false, false] rfl rfl (by kernel_rfl) (fun _ _ _ h => h) (Or.inl ⟨by rfl, ?_⟩) ?_ ?_
                  rotate_left
                  · intro w'
                    go_simp; rw [X7.out]; all_goals with_reducible rfl
                  rotate_left
                  · simp only [Act.put, OpenRow.s1, OpenRow.s2, OpenRow.s3, i64_w, i32_w]; rfl
                  as_aux_lemma =>
                    refine take_ (i := 4) (N := some 53) (v := ?_) (a' := ?_) #[true, true, true, true, true, true, false, true, false, false, true, true, false, false, true, true, true, false, false, true, false, true, false, false, true, true, false, false, false, false] rfl rfl (by kernel_rfl) (fun _ _ _ h => h) (Or.inl ⟨by rfl, ?_⟩) hHeld ?_ ?_
                    rotate_left
                    · intro w' s0
                      have hc_ := s0.cell 2 rfl n16 L16.out; rw [← HA.out] at hc_; go_simp; with_reducible rfl
                    rotate_left
                    · simp only [Act.put, OpenRow.s1, OpenRow.s2, OpenRow.s3, i64_w, i32_w]; rfl
                    refine take_ (i := 17) (N := some 66) (v := ?_) (a' := ?_) #[true, true, true, true, true, true, false, true, false, false, true, true, false, false, true, true, true, true, false, true, false, true, false, false, true, true, false, false, false, false] rfl rfl (by kernel_rfl) (fun _ _ _ h => h) (Or.inl ⟨by rfl, ?_⟩) hHeld ?_ ?_
                    rotate_left
                    · intro w' s0
                      have hc_ := s0.cell 2 rfl n7 L7.out; rw [← HC7.out] at hc_; go_simp; with_reducible rfl
                    rotate_left
                    · simp only [Act.put, OpenRow.s1, OpenRow.s2, OpenRow.s3, i64_w, i32_w]; rfl
                    refine one_ (i := 6) (N := some 55) #[true, true, true, true, true, true, true, true, false, false, true, true, false, false, true, true, true, true, false, true, false, true, false, false, true, true, false, false, false, false] rfl rfl (by kernel_rfl) (by decide) (fun K hK => ?_)
                    refine goes_ Try.func31 (by kernel_rfl) rfl #[.int .u64 x, .int .i64 1] (by rfl) rfl rfl (by simp only [List.map_toArray, List.map_cons, List.map_nil] <;> rfl) ?_
                    with_reducible refine (R1.out _).mono ?_
                    rintro e w3 ⟨rfl, hd⟩
                    refine ⟨_, rfl, ?_⟩
                    have V1 := Aside0.mk (V0.out.step (drawn_below hd))
                    clear hd
                    refine hK.out _ _ (V1.out) (fun hHeld => ?_)
                    clear hK K
                    refine norm_ (a' := ?_) ?_ ?_
                    rotate_left
                    · show Act.put _ (some 55) _ = _
                      simp only [Act.put, OpenRow.s1, OpenRow.s2, OpenRow.s3, i64_w, i32_w]
                      rfl
                    refine one_ (i := 8) (N := some 57) #[true, true, true, true, true, true, true, true, true, false, true, true, false, false, true, true, true, true, false, true, false, true, false, false, true, true, false, false, false, false] rfl rfl (by kernel_rfl) (by decide) (fun K hK => ?_)
                    refine goes_ Try.func31 (by kernel_rfl) rfl #[.int .u64 x, .int .i64 8] (by rfl) rfl rfl (by simp only [List.map_toArray, List.map_cons, List.map_nil] <;> rfl) ?_
                    with_reducible refine (R8.out _).mono ?_
                    rintro e w3 ⟨rfl, hd⟩
                    refine ⟨_, rfl, ?_⟩
                    have V2 := Aside0.mk (V1.out.step (drawn_below hd))
                    clear hd
                    refine hK.out _ _ (V2.out) (fun hHeld => ?_)
                    clear hK K
                    refine norm_ (a' := ?_) ?_ ?_
                    rotate_left
                    · show Act.put _ (some 57) _ = _
                      simp only [Act.put, OpenRow.s1, OpenRow.s2, OpenRow.s3, i64_w, i32_w]
                      rfl
                    refine pure_ (i := 9) (N := some 58) (v := ?_) (a' := ?_) #[true, true, true, true, true, true, true, true, true, true, true, true, false, false, true, true, true, true, false, true, false, true, false, false, true, true, false, false, false, false] rfl rfl (by kernel_rfl) (fun _ _ _ h => h) (Or.inl ⟨by rfl, ?_⟩) ?_ ?_
                    rotate_left
                    · intro w'
                      go_simp; rw [X1.out]; all_goals with_reducible rfl
                    rotate_left
                    · simp only [Act.put, OpenRow.s1, OpenRow.s2, OpenRow.s3, i64_w, i32_w]; rfl
                    refine pure_ (i := 12) (N := some 61) (v := ?_) (a' := ?_) #[true, true, true, true, true, true, true, true, true, true, true, true, true, false, true, true, true, true, false, true, false, true, false, false, true, true, false, false, false, false] rfl rfl (by kernel_rfl) (fun _ _ _ h => h) (Or.inl ⟨by rfl, ?_⟩) ?_ ?_
                    rotate_left
                    · intro w'
                      go_simp; rw [X3.out]; all_goals with_reducible rfl
                    rotate_left
                    · simp only [Act.put, OpenRow.s1, OpenRow.s2, OpenRow.s3, i64_w, i32_w]; rfl
                    refine pure_ (i := 13) (N := some 62) (v := ?_) (a' := ?_) #[true, true, true, true, true, true, true, true, true, true, true, true, true, true, true, true, true, true, false, true, false, true, false, false, true, true, false, false, false, false] rfl rfl (by kernel_rfl) (fun _ _ _ h => h) (Or.inl ⟨by rfl, ?_⟩) ?_ ?_
                    rotate_left
                    · intro w'
                      go_simp; rw [X4.out]; all_goals with_reducible rfl
                    rotate_left
                    · simp only [Act.put, OpenRow.s1, OpenRow.s2, OpenRow.s3, i64_w, i32_w]; rfl
                    refine pure_ (i := 18) (N := some 67) (v := ?_) (a' := ?_) #[true, true, true, true, true, true, true, true, true, true, true, true, true, true, true, true, true, true, true, true, false, true, false, false, true, true, false, false, false, false] rfl rfl (by kernel_rfl) (fun _ _ _ h => h) (Or.inl ⟨by rfl, ?_⟩) ?_ ?_
                    rotate_left
                    · intro w'
                      go_simp; rw [X5.out]; all_goals with_reducible rfl
                    rotate_left
                    · simp only [Act.put, OpenRow.s1, OpenRow.s2, OpenRow.s3, i64_w, i32_w]; rfl
                    as_aux_lemma =>
                      refine one_ (i := 20) (N := some 69) #[true, true, true, true, true, true, true, true, true, true, true, true, true, true, true, true, true, true, true, true, true, true, false, false, true, true, false, false, false, false] rfl rfl (by kernel_rfl) (by decide) (fun K hK => ?_)
                      refine goes_ Try.func31 (by kernel_rfl) rfl #[.int .u64 y, .int .i64 19] (by rfl) rfl rfl (by simp only [List.map_toArray, List.map_cons, List.map_nil] <;> rfl) ?_
                      with_reducible refine (R19.out _).mono ?_
                      rintro e w3 ⟨rfl, hd⟩
                      refine ⟨_, rfl, ?_⟩
                      have V3 := Aside0.mk (V2.out.step (drawn_below hd))
                      clear hd
                      refine hK.out _ _ (V3.out) (fun hHeld => ?_)
                      clear hK K
                      refine norm_ (a' := ?_) ?_ ?_
                      rotate_left
                      · show Act.put _ (some 69) _ = _
                        simp only [Act.put, OpenRow.s1, OpenRow.s2, OpenRow.s3, i64_w, i32_w]
                        rfl
                      refine one_ (i := 22) (N := some 71) #[true, true, true, true, true, true, true, true, true, true, true, true, true, true, true, true, true, true, true, true, true, true, true, false, true, true, false, false, false, false] rfl rfl (by kernel_rfl) (by decide) (fun K hK => ?_)
                      refine goes_ Try.func31 (by kernel_rfl) rfl #[.int .u64 y, .int .i64 61] (by rfl) rfl rfl (by simp only [List.map_toArray, List.map_cons, List.map_nil] <;> rfl) ?_
                      with_reducible refine (R61.out _).mono ?_
                      rintro e w3 ⟨rfl, hd⟩
                      refine ⟨_, rfl, ?_⟩
                      have V4 := Aside0.mk (V3.out.step (drawn_below hd))
                      clear hd
                      have hcS := V4.out.cell 2 rfl i LI.out
                      have hfS := blk_frozen (V4.out.blk 2 rfl) i
                      refine hK.out _ _ (V4.out) (fun hHeld => ?_)
                      clear hK K
                      refine norm_ (a' := ?_) ?_ ?_
                      rotate_left
                      · show Act.put _ (some 71) _ = _
                        simp only [Act.put, OpenRow.s1, OpenRow.s2, OpenRow.s3, i64_w, i32_w]
                        rfl
                      refine pure_ (i := 23) (N := some 72) (v := ?_) (a' := ?_) #[true, true, true, true, true, true, true, true, true, true, true, true, true, true, true, true, true, true, true, true, true, true, true, true, true, true, false, false, false, false] rfl rfl (by kernel_rfl) (fun _ _ _ h => h) (Or.inl ⟨by rfl, ?_⟩) ?_ ?_
                      rotate_left
                      · intro w'
                        go_simp; rw [X6.out]; all_goals with_reducible rfl
                      rotate_left
                      · simp only [Act.put, OpenRow.s1, OpenRow.s2, OpenRow.s3, i64_w, i32_w]; rfl
                      refine pure_ (i := 26) (N := some 75) (v := ?_) (a' := ?_) #[true, true, true, true, true, true, true, true, true, true, true, true, true, true, true, true, true, true, true, true, true, true, true, true, true, true, true, false, false, false] rfl rfl (by kernel_rfl) (fun _ _ _ h => h) (Or.inl ⟨by rfl, ?_⟩) ?_ ?_
                      rotate_left
                      · intro w'
                        go_simp; rw [X8.out]; all_goals with_reducible rfl
                      rotate_left
                      · simp only [Act.put, OpenRow.s1, OpenRow.s2, OpenRow.s3, i64_w, i32_w]; rfl
                      refine pure_ (i := 27) (N := some 76) (v := ?_) (a' := ?_) #[true, true, true, true, true, true, true, true, true, true, true, true, true, true, true, true, true, true, true, true, true, true, true, true, true, true, true, true, false, false] rfl rfl (by kernel_rfl) (fun _ _ _ h => h) (Or.inl ⟨by rfl, ?_⟩) ?_ ?_
                      rotate_left
                      · intro w'
                        go_simp; rw [X9.out]; all_goals with_reducible rfl
                      rotate_left
                      · simp only [Act.put, OpenRow.s1, OpenRow.s2, OpenRow.s3, i64_w, i32_w]; rfl
                      refine pure_ (i := 28) (N := some 77) (v := ?_) (a' := ?_) #[true, true, true, true, true, true, true, true, true, true, true, true, true, true, true, true, true, true, true, true, true, true, true, true, true, true, true, true, true, false] rfl rfl (by kernel_rfl) (fun _ _ _ h => h) (Or.inl ⟨by rfl, ?_⟩) ?_ ?_
                      rotate_left
                      · intro w'; go_simp; with_reducible rfl
                      rotate_left
                      · simp only [Act.put, OpenRow.s1, OpenRow.s2, OpenRow.s3, i64_w, i32_w]; rfl
                      refine last_ (i := 29) (N := none) #[true, true, true, true, true, true, true, true, true, true, true, true, true, true, true, true, true, true, true, true, true, true, true, true, true, true, true, true, true, true] rfl rfl (by kernel_rfl) (by decide) (fun K hK => ?_)
                      refine skip_ (w1 := ?_) (by rfl) rfl ?_ ?_
                      rotate_left
                      · go_simp
                        rfl
                      refine hK.out _ _ ?_
                      clear hK K
                      refine done_ (by kernel_rfl) ?_

                      clear v15 v2 v16 v7 hcS hfS
                      go_wp2
                      go_roundg (80 - (i + 1))
                      case measure => omega
                      case rel => exact ⟨i + 1, by omega, by omega, by omega, by go_num, by rw [EQ.out]; exact ⟨V4.out.set 2 rfl i p9⟩⟩
              · obtain rfl : i = 80 := by omega
                have hneg80 : ¬ ((80 : Nat) : Int) < 80 := by omega
                clear hlt hg hi hi0
                have HWL := Aside0.mk (wB_length b 64)
                have EB := Aside0.mk (show blkH K h b = addH h (rds K (wB b 64) h 80) 8 from rfl)
                rw [show 80 - 16 = 64 from rfl] at S
                generalize wB b 64 = Ws at *
                go_wp2_with (first
                  | ((with_reducible refine gate_dst (N := 78) rfl ?_); refine ld_arr rfl 47 (.tmp 3) rfl w.heap.size rfl (S.out.blk 0 rfl) Try.underlying47 (m := 8) (by kernel_rfl) HH.out ?_)
                  | (refine st_arr rfl 47 (.tmp 12) (.tmp 78) rfl wr.heap.size (xs := h) rfl rfl (blk_new wr (.cells (arr .u64 z8) 47)) (m := 8) (by kernel_rfl) HH.out (by rw [HH.out]; rfl) ?_; intro w2 h1 h2 h4 h3; have G12 := Aside0.mk h1; have S2 := Aside0.mk (St.other (S.out.alloc (.cells (arr .u64 z8) 47)) h2 h3 S.out.size); clear h1 h2 h3 h4))
                have E12 := Aside0.mk S.out.size
                generalize wr.heap.size = g12 at *
                clear S
                as_aux_lemma =>
                  go_loopg [13, 14, 15, 16, 17, 18, 19, 20, 21, 79] 81 (fun gg _ _ _ _ _ _ _ _ _ v79 wr => ∃ k : Nat, k ≤ 80 ∧ 80 - k ≤ gg ∧ v79 = .int .i64 k ∧ Aside0 (St w [⟨47, .u64, h⟩, ⟨47, .u64, z8⟩, ⟨49, .u64, Ws⟩] wr) ∧ Aside0 (wr.heap[g12]? = some (.cells (arr .u64 (rds K Ws h k)) 47 (0, 0))))
                  case atStart => exact ⟨0, by omega, by omega, rfl, S2, G12⟩
                  case round =>
                    clear S2 G12
                    obtain ⟨k, hk, hg, rfl, S, G⟩ := hrel
                    by_cases hlt : k < 80
                    · have hlti : (k : Int) < 80 := by omega
                      have hk0 : (0 : Int) ≤ (k : Int) := by omega
                      have HVL := Aside0.mk (rds_length K Ws h HH.out k)
                      have EQ := Aside0.mk (show rds K Ws h (k + 1) = rnd K Ws (rds K Ws h k) k from rfl)
                      generalize rds K Ws h k = vs at *
                      unfold rnd t1F t2F sC sD chF mjF at EQ
                      unfold w6 at EQ
                      obtain ⟨va, hv0⟩ : ∃ x, x = vs.getD 0 0 := ⟨_, rfl⟩
                      obtain ⟨vb, hv1⟩ : ∃ x, x = vs.getD 1 0 := ⟨_, rfl⟩
                      obtain ⟨vc, hv2⟩ : ∃ x, x = vs.getD 2 0 := ⟨_, rfl⟩
                      obtain ⟨vd, hv3⟩ : ∃ x, x = vs.getD 3 0 := ⟨_, rfl⟩
                      obtain ⟨ve, hv4⟩ : ∃ x, x = vs.getD 4 0 := ⟨_, rfl⟩
                      obtain ⟨vf, hv5⟩ : ∃ x, x = vs.getD 5 0 := ⟨_, rfl⟩
                      obtain ⟨vg, hv6⟩ : ∃ x, x = vs.getD 6 0 := ⟨_, rfl⟩
                      obtain ⟨vh, hv7⟩ : ∃ x, x = vs.getD 7 0 := ⟨_, rfl⟩
                      rw [← hv0, ← hv1, ← hv2, ← hv3, ← hv4, ← hv5, ← hv6, ← hv7] at EQ
                      have hc0 := blk_get G.out 0 (by rw [HVL.out]; omega)
                      rw [← hv0] at hc0
                      have hc1 := blk_get G.out 1 (by rw [HVL.out]; omega)
                      rw [← hv1] at hc1
                      have hc2 := blk_get G.out 2 (by rw [HVL.out]; omega)
                      rw [← hv2] at hc2
                      have hc4 := blk_get G.out 4 (by rw [HVL.out]; omega)
                      rw [← hv4] at hc4
                      have hc5 := blk_get G.out 5 (by rw [HVL.out]; omega)
                      rw [← hv5] at hc5
                      have hc6 := blk_get G.out 6 (by rw [HVL.out]; omega)
                      rw [← hv6] at hc6
                      have HV7 := Aside0.mk hv7
                      have HV3 := Aside0.mk hv3
                      have L7v := Aside0.mk (show 7 < vs.length by rw [HVL.out]; omega)
                      have L3v := Aside0.mk (show 3 < vs.length by rw [HVL.out]; omega)
                      clear hv0 hv1 hv2 hv3 hv4 hv5 hv6 hv7
                      obtain ⟨kk, hkk⟩ : ∃ x, x = K.getD k 0 := ⟨_, rfl⟩
                      obtain ⟨ww, hww⟩ : ∃ x, x = Ws.getD k 0 := ⟨_, rfl⟩
                      rw [← hkk, ← hww] at EQ
                      have HKK := Aside0.mk hkk
                      have HWW := Aside0.mk hww
                      have LK := Aside0.mk (show k < K.length by rw [HKL.out]; omega)
                      have LW := Aside0.mk (show k < Ws.length by rw [HWL.out]; omega)
                      clear hkk hww
                      have GK := Aside0.mk (blk_below HGK.out S.out.below)
                      have Q14 := Aside0.mk (fun W => (show Calls Try.prog 31 #[.int .u64 ve, .int .i64 14] W fun e w' => e = .returned (.int .u64 (rr ve 14)) ∧ Drawn0 W w' from right_calls ve 14 W (by decide) (by decide)))
                      have Q18 := Aside0.mk (fun W => (show Calls Try.prog 31 #[.int .u64 ve, .int .i64 18] W fun e w' => e = .returned (.int .u64 (rr ve 18)) ∧ Drawn0 W w' from right_calls ve 18 W (by decide) (by decide)))
                      have Q41 := Aside0.mk (fun W => (show Calls Try.prog 31 #[.int .u64 ve, .int .i64 41] W fun e w' => e = .returned (.int .u64 (rr ve 41)) ∧ Drawn0 W w' from right_calls ve 41 W (by decide) (by decide)))
                      have Q28 := Aside0.mk (fun W => (show Calls Try.prog 31 #[.int .u64 va, .int .i64 28] W fun e w' => e = .returned (.int .u64 (rr va 28)) ∧ Drawn0 W w' from right_calls va 28 W (by decide) (by decide)))
                      have Q34 := Aside0.mk (fun W => (show Calls Try.prog 31 #[.int .u64 va, .int .i64 34] W fun e w' => e = .returned (.int .u64 (rr va 34)) ∧ Drawn0 W w' from right_calls va 34 W (by decide) (by decide)))
                      have Q39 := Aside0.mk (fun W => (show Calls Try.prog 31 #[.int .u64 va, .int .i64 39] W fun e w' => e = .returned (.int .u64 (rr va 39)) ∧ Drawn0 W w' from right_calls va 39 W (by decide) (by decide)))
                      generalize rr ve 14 = r14 at *
                      generalize rr ve 18 = r18 at *
                      generalize rr ve 41 = r41 at *
                      generalize rr va 28 = r28 at *
                      generalize rr va 34 = r34 at *
                      generalize rr va 39 = r39 at *
                      obtain ⟨y1, hx⟩ : ∃ p, bits .xor .u64 r14 r18 = p := ⟨_, rfl⟩
                      rw [hx] at EQ
                      have X1 := Aside0.mk hx
                      clear hx
                      obtain ⟨y2, hx⟩ : ∃ p, bits .xor .u64 y1 r41 = p := ⟨_, rfl⟩
                      rw [hx] at EQ
                      have X2 := Aside0.mk hx
                      clear hx
                      obtain ⟨y3, hx⟩ : ∃ p, IntKind.u64.wrap (vh + y2) = p := ⟨_, rfl⟩
                      rw [hx] at EQ
                      have X3 := Aside0.mk hx
                      clear hx
                      obtain ⟨y4, hx⟩ : ∃ p, bits .and .u64 ve vf = p := ⟨_, rfl⟩
                      rw [hx] at EQ
                      have X4 := Aside0.mk hx
                      clear hx
                      obtain ⟨y5, hx⟩ : ∃ p, bits .xor .u64 (if IntKind.u64.signed = true then -1 else IntKind.u64.max) ve = p := ⟨_, rfl⟩
                      rw [hx] at EQ
                      have X5 := Aside0.mk hx
                      clear hx
                      obtain ⟨y6, hx⟩ : ∃ p, bits .and .u64 y5 vg = p := ⟨_, rfl⟩
                      rw [hx] at EQ
                      have X6 := Aside0.mk hx
                      clear hx
                      obtain ⟨y7, hx⟩ : ∃ p, bits .xor .u64 y4 y6 = p := ⟨_, rfl⟩
                      rw [hx] at EQ
                      have X7 := Aside0.mk hx
                      clear hx
                      obtain ⟨y8, hx⟩ : ∃ p, IntKind.u64.wrap (y3 + y7) = p := ⟨_, rfl⟩
                      rw [hx] at EQ
                      have X8 := Aside0.mk hx
                      clear hx
                      obtain ⟨y9, hx⟩ : ∃ p, IntKind.u64.wrap (y8 + kk) = p := ⟨_, rfl⟩
                      rw [hx] at EQ
                      have X9 := Aside0.mk hx
                      clear hx
                      obtain ⟨t1, hx⟩ : ∃ p, IntKind.u64.wrap (y9 + ww) = p := ⟨_, rfl⟩
                      rw [hx] at EQ
                      have X10 := Aside0.mk hx
                      clear hx
                      go_wp2
                      go_region
                      clear hc0 hc1 hc2 hc4 hc5 hc6
                      go_wp2
                      have V0 := Aside0.mk S.out.drew.drew
                      have G0 := Aside0.mk (blk_drew (blk_drew G.out))
                      have K0 := Aside0.mk (blk_drew (blk_drew GK.out))
                      refine start_ (n := 31) (S := fun w' => St w [⟨47, .u64, h⟩, ⟨47, .u64, z8⟩, ⟨49, .u64, Ws⟩] w' ∧ w'.heap[g12]? = some (.cells (arr .u64 vs) 47 (0, 0)) ∧ w'.heap[gK]? = some (.cells (arr .u64 K) 49 (0, 0))) (ds := []) #[false, false, false, false, false, false, false, false, false, false, false, false, false, false, false, false, false, false, false, false, false, false, false, false, false, false, false, false, false, false, false] (by kernel_rfl) rfl rfl ⟨V0.out, G0.out, K0.out⟩ (fun hHeld => ?_)
                      refine pure_ (i := 0) (N := some 94) (v := ?_) (a' := ?_) #[true, false, false, false, false, false, false, false, false, false, false, false, false, false, false, false, false, false, false, false, false, false, false, false, false, false, false, false, false, false, false] rfl rfl (by kernel_rfl) (fun _ _ _ h => h) (Or.inl ⟨by rfl, ?_⟩) ?_ ?_
                      rotate_left
                      · intro w'; go_simp; with_reducible rfl
                      rotate_left
                      · simp only [Act.put, OpenRow.s1, OpenRow.s2, OpenRow.s3, i64_w, i32_w]; rfl
                      refine pure_ (i := 2) (N := some 96) (v := ?_) (a' := ?_) #[true, false, true, false, false, false, false, false, false, false, false, false, false, false, false, false, false, false, false, false, false, false, false, false, false, false, false, false, false, false, false] rfl rfl (by kernel_rfl) (fun _ _ _ h => h) (Or.inl ⟨by rfl, ?_⟩) ?_ ?_
                      rotate_left
                      · intro w'; go_simp; with_reducible rfl
                      rotate_left
                      · simp only [Act.put, OpenRow.s1, OpenRow.s2, OpenRow.s3, i64_w, i32_w]; rfl
                      as_aux_lemma =>
                        refine pure_ (i := 4) (N := some 98) (v := ?_) (a' := ?_) #[true, false, true, false, true, false, false, false, false, false, false, false, false, false, false, false, false, false, false, false, false, false, false, false, false, false, false, false, false, false, false] rfl rfl (by kernel_rfl) (fun _ _ _ h => h) (Or.inl ⟨by rfl, ?_⟩) ?_ ?_
                        rotate_left
                        · intro w'; go_simp; with_reducible rfl
                        rotate_left
                        · simp only [Act.put, OpenRow.s1, OpenRow.s2, OpenRow.s3, i64_w, i32_w]; rfl
                        refine pure_ (i := 7) (N := some 101) (v := ?_) (a' := ?_) #[true, false, true, false, true, false, false, true, false, false, false, false, false, false, false, false, false, false, false, false, false, false, false, false, false, false, false, false, false, false, false] rfl rfl (by kernel_rfl) (fun _ _ _ h => h) (Or.inl ⟨by rfl, ?_⟩) ?_ ?_
                        rotate_left
                        · intro w'; go_simp; with_reducible rfl
                        rotate_left
                        · simp only [Act.put, OpenRow.s1, OpenRow.s2, OpenRow.s3, i64_w, i32_w]; rfl
                        refine pure_ (i := 11) (N := some 105) (v := ?_) (a' := ?_) #[true, false, true, false, true, false, false, true, false, false, false, true, false, false, false, false, false, false, false, false, false, false, false, false, false, false, false, false, false, false, false] rfl rfl (by kernel_rfl) (fun _ _ _ h => h) (Or.inl ⟨by rfl, ?_⟩) ?_ ?_
                        rotate_left
                        · intro w'; go_simp; with_reducible rfl
                        rotate_left
                        · simp only [Act.put, OpenRow.s1, OpenRow.s2, OpenRow.s3, i64_w, i32_w]; rfl
                        refine pure_ (i := 12) (N := some 106) (v := ?_) (a' := ?_) #[true, false, true, false, true, false, false, true, false, false, false, true, true, false, false, false, false, false, false, false, false, false, false, false, false, false, false, false, false, false, false] rfl rfl (by kernel_rfl) (fun _ _ _ h => h) (Or.inl ⟨by rfl, ?_⟩) ?_ ?_
                        rotate_left
                        · intro w'; go_simp; with_reducible rfl
                        rotate_left
                        · simp only [Act.put, OpenRow.s1, OpenRow.s2, OpenRow.s3, i64_w, i32_w]; rfl
                        refine pure_ (i := 13) (N := some 107) (v := ?_) (a' := ?_) #[true, false, true, false, true, false, false, true, false, false, false, true, true, true, false, false, false, false, false, false, false, false, false, false, false, false, false, false, false, false, false] rfl rfl (by kernel_rfl) (fun _ _ _ h => h) (Or.inl ⟨by rfl, ?_⟩) ?_ ?_
                        rotate_left
                        · intro w'
                          go_simp; rw [X4.out]; all_goals with_reducible rfl
                        rotate_left
                        · simp only [Act.put, OpenRow.s1, OpenRow.s2, OpenRow.s3, i64_w, i32_w]; rfl
                        refine pure_ (i := 14) (N := some 108) (v := ?_) (a' := ?_) #[true, false, true, false, true, false, false, true, false, false, false, true, true, true, true, false, false, false, false, false, false, false, false, false, false, false, false, false, false, false, false] rfl rfl (by kernel_rfl) (fun _ _ _ h => h) (Or.inl ⟨by rfl, ?_⟩) ?_ ?_
                        rotate_left
                        · intro w'; go_simp; with_reducible rfl
                        rotate_left
                        · simp only [Act.put, OpenRow.s1, OpenRow.s2, OpenRow.s3, i64_w, i32_w]; rfl
                        refine pure_ (i := 15) (N := some 109) (v := ?_) (a' := ?_) #[true, false, true, false, true, false, false, true, false, false, false, true, true, true, true, true, false, false, false, false, false, false, false, false, false, false, false, false, false, false, false] rfl rfl (by kernel_rfl) (fun _ _ _ h => h) (Or.inl ⟨by rfl, ?_⟩) ?_ ?_
                        rotate_left
                        · intro w'
                          go_simp; rw [X5.out]; all_goals with_reducible rfl
                        rotate_left
                        · simp only [Act.put, OpenRow.s1, OpenRow.s2, OpenRow.s3, i64_w, i32_w]; rfl
                        refine pure_ (i := 16) (N := some 110) (v := ?_) (a' := ?_) #[true, false, true, false, true, false, false, true, false, false, false, true, true, true, true, true, true, false, false, false, false, false, false, false, false, false, false, false, false, false, false] rfl rfl (by kernel_rfl) (fun _ _ _ h => h) (Or.inl ⟨by rfl, ?_⟩) ?_ ?_
                        rotate_left
                        · intro w'; go_simp; with_reducible rfl
                        rotate_left
                        · simp only [Act.put, OpenRow.s1, OpenRow.s2, OpenRow.s3, i64_w, i32_w]; rfl
                        as_aux_lemma =>
                          refine pure_ (i := 17) (N := some 111) (v := ?_) (a' := ?_) #[true, false, true, false, true, false, false, true, false, false, false, true, true, true, true, true, true, true, false, false, false, false, false, false, false, false, false, false, false, false, false] rfl rfl (by kernel_rfl) (fun _ _ _ h => h) (Or.inl ⟨by rfl, ?_⟩) ?_ ?_
                          rotate_left
                          · intro w'
                            go_simp; rw [X6.out]; all_goals with_reducible rfl
                          rotate_left
                          · simp only [Act.put, OpenRow.s1, OpenRow.s2, OpenRow.s3, i64_w, i32_w]; rfl
                          refine pure_ (i := 18) (N := some 112) (v := ?_) (a' := ?_) #[true, false, true, false, true, false, false, true, false, false, false, true, true, true, true, true, true, true, true, false, false, false, false, false, false, false, false, false, false, false, false] rfl rfl (by kernel_rfl) (fun _ _ _ h => h) (Or.inl ⟨by rfl, ?_⟩) ?_ ?_
                          rotate_left
                          · intro w'
                            go_simp; rw [X7.out]; all_goals with_reducible rfl
                          rotate_left
                          · simp only [Act.put, OpenRow.s1, OpenRow.s2, OpenRow.s3, i64_w, i32_w]; rfl
                          refine pure_ (i := 20) (N := some 114) (v := ?_) (a' := ?_) #[true, false, true, false, true, false, false, true, false, false, false, true, true, true, true, true, true, true, true, false, true, false, false, false, false, false, false, false, false, false, false] rfl rfl (by kernel_rfl) (fun _ _ _ h => h) (Or.inl ⟨by rfl, ?_⟩) ?_ ?_
                          rotate_left
                          · intro w'; go_simp; with_reducible rfl
                          rotate_left
                          · simp only [Act.put, OpenRow.s1, OpenRow.s2, OpenRow.s3, i64_w, i32_w]; rfl
                          refine pure_ (i := 21) (N := some 115) (v := ?_) (a' := ?_) #[true, false, true, false, true, false, false, true, false, false, false, true, true, true, true, true, true, true, true, false, true, true, false, false, false, false, false, false, false, false, false] rfl rfl (by kernel_rfl) (fun _ _ _ h => h) (Or.inl ⟨by rfl, ?_⟩) ?_ ?_
                          rotate_left
                          · intro w'; go_simp; with_reducible rfl
                          rotate_left
                          · simp only [Act.put, OpenRow.s1, OpenRow.s2, OpenRow.s3, i64_w, i32_w]; rfl
                          refine pure_ (i := 22) (N := some 116) (v := ?_) (a' := ?_) #[true, false, true, false, true, false, false, true, false, false, false, true, true, true, true, true, true, true, true, false, true, true, true, false, false, false, false, false, false, false, false] rfl rfl (by kernel_rfl) (fun _ _ _ h => h) (Or.inl ⟨by rfl, ?_⟩) ?_ ?_
                          rotate_left
                          · intro w'; go_simp; with_reducible rfl
                          rotate_left
                          · simp only [Act.put, OpenRow.s1, OpenRow.s2, OpenRow.s3, i64_w, i32_w]; rfl
                          refine pure_ (i := 23) (N := some 117) (v := ?_) (a' := ?_) #[true, false, true, false, true, false, false, true, false, false, false, true, true, true, true, true, true, true, true, false, true, true, true, true, false, false, false, false, false, false, false] rfl rfl (by kernel_rfl) (fun _ _ _ h => h) (Or.inl ⟨by rfl, ?_⟩) ?_ ?_
                          rotate_left
                          · intro w'; go_simp; with_reducible rfl
                          rotate_left
                          · simp only [Act.put, OpenRow.s1, OpenRow.s2, OpenRow.s3, i64_w, i32_w]; rfl
                          refine pure_ (i := 26) (N := some 120) (v := ?_) (a' := ?_) #[true, false, true, false, true, false, false, true, false, false, false, true, true, true, true, true, true, true, true, false, true, true, true, true, false, false, true, false, false, false, false] rfl rfl (by kernel_rfl) (fun _ _ _ h => h) (Or.inl ⟨by rfl, ?_⟩) ?_ ?_
                          rotate_left
                          · intro w'; go_simp; with_reducible rfl
                          rotate_left
                          · simp only [Act.put, OpenRow.s1, OpenRow.s2, OpenRow.s3, i64_w, i32_w]; rfl
                          refine pure_ (i := 27) (N := some 121) (v := ?_) (a' := ?_) #[true, false, true, false, true, false, false, true, false, false, false, true, true, true, true, true, true, true, true, false, true, true, true, true, false, false, true, true, false, false, false] rfl rfl (by kernel_rfl) (fun _ _ _ h => h) (Or.inl ⟨by rfl, ?_⟩) ?_ ?_
                          rotate_left
                          · intro w'; go_simp; with_reducible rfl
                          rotate_left
                          · simp only [Act.put, OpenRow.s1, OpenRow.s2, OpenRow.s3, i64_w, i32_w]; rfl
                          as_aux_lemma =>
                            refine take_ (i := 1) (N := some 95) (v := ?_) (a' := ?_) #[true, true, true, false, true, false, false, true, false, false, false, true, true, true, true, true, true, true, true, false, true, true, true, true, false, false, true, true, false, false, false] rfl rfl (by kernel_rfl) (fun _ _ _ h => h) (Or.inl ⟨by rfl, ?_⟩) hHeld ?_ ?_
                            rotate_left
                            · rintro w' ⟨s0, s1, s2⟩
                              have hc_ := blk_get s1 7 L7v.out; rw [← HV7.out] at hc_; go_simp; with_reducible rfl
                            rotate_left
                            · simp only [Act.put, OpenRow.s1, OpenRow.s2, OpenRow.s3, i64_w, i32_w]; rfl
                            refine take_ (i := 24) (N := some 118) (v := ?_) (a' := ?_) #[true, true, true, false, true, false, false, true, false, false, false, true, true, true, true, true, true, true, true, false, true, true, true, true, true, false, true, true, false, false, false] rfl rfl (by kernel_rfl) (fun _ _ _ h => h) (Or.inl ⟨by rfl, ?_⟩) hHeld ?_ ?_
                            rotate_left
                            · rintro w' ⟨s0, s1, s2⟩
                              have hc_ := blk_get s2 k LK.out; rw [← HKK.out] at hc_; go_simp; with_reducible rfl
                            rotate_left
                            · simp only [Act.put, OpenRow.s1, OpenRow.s2, OpenRow.s3, i64_w, i32_w]; rfl
                            refine take_ (i := 28) (N := some 122) (v := ?_) (a' := ?_) #[true, true, true, false, true, false, false, true, false, false, false, true, true, true, true, true, true, true, true, false, true, true, true, true, true, false, true, true, true, false, false] rfl rfl (by kernel_rfl) (fun _ _ _ h => h) (Or.inl ⟨by rfl, ?_⟩) hHeld ?_ ?_
                            rotate_left
                            · rintro w' ⟨s0, s1, s2⟩
                              have hc_ := s0.cell 2 rfl k LW.out; rw [← HWW.out] at hc_; go_simp; with_reducible rfl
                            rotate_left
                            · simp only [Act.put, OpenRow.s1, OpenRow.s2, OpenRow.s3, i64_w, i32_w]; rfl
                            refine one_ (i := 3) (N := some 97) #[true, true, true, true, true, false, false, true, false, false, false, true, true, true, true, true, true, true, true, false, true, true, true, true, true, false, true, true, true, false, false] rfl rfl (by kernel_rfl) (by decide) (fun K hK => ?_)
                            refine goes_ Try.func31 (by kernel_rfl) rfl #[.int .u64 ve, .int .i64 14] (by rfl) rfl rfl (by simp only [List.map_toArray, List.map_cons, List.map_nil] <;> rfl) ?_
                            with_reducible refine (Q14.out _).mono ?_
                            rintro e w3 ⟨rfl, hd⟩
                            refine ⟨_, rfl, ?_⟩
                            have V1 := Aside0.mk (V0.out.step (drawn_below hd))
                            have G1 := Aside0.mk (blk_below G0.out (drawn_below hd))
                            have K1 := Aside0.mk (blk_below K0.out (drawn_below hd))
                            clear hd
                            refine hK.out _ _ ⟨V1.out, G1.out, K1.out⟩ (fun hHeld => ?_)
                            clear hK K
                            refine norm_ (a' := ?_) ?_ ?_
                            rotate_left
                            · show Act.put _ (some 97) _ = _
                              simp only [Act.put, OpenRow.s1, OpenRow.s2, OpenRow.s3, i64_w, i32_w]
                              rfl
                            refine one_ (i := 5) (N := some 99) #[true, true, true, true, true, true, false, true, false, false, false, true, true, true, true, true, true, true, true, false, true, true, true, true, true, false, true, true, true, false, false] rfl rfl (by kernel_rfl) (by decide) (fun K hK => ?_)
                            refine goes_ Try.func31 (by kernel_rfl) rfl #[.int .u64 ve, .int .i64 18] (by rfl) rfl rfl (by simp only [List.map_toArray, List.map_cons, List.map_nil] <;> rfl) ?_
                            with_reducible refine (Q18.out _).mono ?_
                            rintro e w3 ⟨rfl, hd⟩
                            refine ⟨_, rfl, ?_⟩
                            have V2 := Aside0.mk (V1.out.step (drawn_below hd))
                            have G2 := Aside0.mk (blk_below G1.out (drawn_below hd))
                            have K2 := Aside0.mk (blk_below K1.out (drawn_below hd))
                            clear hd
                            refine hK.out _ _ ⟨V2.out, G2.out, K2.out⟩ (fun hHeld => ?_)
                            clear hK K
                            refine norm_ (a' := ?_) ?_ ?_
                            rotate_left
                            · show Act.put _ (some 99) _ = _
                              simp only [Act.put, OpenRow.s1, OpenRow.s2, OpenRow.s3, i64_w, i32_w]
                              rfl
                            refine pure_ (i := 6) (N := some 100) (v := ?_) (a' := ?_) #[true, true, true, true, true, true, true, true, false, false, false, true, true, true, true, true, true, true, true, false, true, true, true, true, true, false, true, true, true, false, false] rfl rfl (by kernel_rfl) (fun _ _ _ h => h) (Or.inl ⟨by rfl, ?_⟩) ?_ ?_
                            rotate_left
                            · intro w'
                              go_simp; rw [X1.out]; all_goals with_reducible rfl
                            rotate_left
                            · simp only [Act.put, OpenRow.s1, OpenRow.s2, OpenRow.s3, i64_w, i32_w]; rfl
                            refine one_ (i := 8) (N := some 102) #[true, true, true, true, true, true, true, true, true, false, false, true, true, true, true, true, true, true, true, false, true, true, true, true, true, false, true, true, true, false, false] rfl rfl (by kernel_rfl) (by decide) (fun K hK => ?_)
                            refine goes_ Try.func31 (by kernel_rfl) rfl #[.int .u64 ve, .int .i64 41] (by rfl) rfl rfl (by simp only [List.map_toArray, List.map_cons, List.map_nil] <;> rfl) ?_
                            with_reducible refine (Q41.out _).mono ?_
                            rintro e w3 ⟨rfl, hd⟩
                            refine ⟨_, rfl, ?_⟩
                            have V3 := Aside0.mk (V2.out.step (drawn_below hd))
                            have G3 := Aside0.mk (blk_below G2.out (drawn_below hd))
                            have K3 := Aside0.mk (blk_below K2.out (drawn_below hd))
                            clear hd
                            refine hK.out _ _ ⟨V3.out, G3.out, K3.out⟩ (fun hHeld => ?_)
                            clear hK K
                            refine norm_ (a' := ?_) ?_ ?_
                            rotate_left
                            · show Act.put _ (some 102) _ = _
                              simp only [Act.put, OpenRow.s1, OpenRow.s2, OpenRow.s3, i64_w, i32_w]
                              rfl
                            refine pure_ (i := 9) (N := some 103) (v := ?_) (a' := ?_) #[true, true, true, true, true, true, true, true, true, true, false, true, true, true, true, true, true, true, true, false, true, true, true, true, true, false, true, true, true, false, false] rfl rfl (by kernel_rfl) (fun _ _ _ h => h) (Or.inl ⟨by rfl, ?_⟩) ?_ ?_
                            rotate_left
                            · intro w'
                              go_simp; rw [X2.out]; all_goals with_reducible rfl
                            rotate_left
                            · simp only [Act.put, OpenRow.s1, OpenRow.s2, OpenRow.s3, i64_w, i32_w]; rfl
                            as_aux_lemma =>
                              refine pure_ (i := 10) (N := some 104) (v := ?_) (a' := ?_) #[true, true, true, true, true, true, true, true, true, true, true, true, true, true, true, true, true, true, true, false, true, true, true, true, true, false, true, true, true, false, false] rfl rfl (by kernel_rfl) (fun _ _ _ h => h) (Or.inl ⟨by rfl, ?_⟩) ?_ ?_
                              rotate_left
                              · intro w'
                                go_simp; rw [X3.out]; all_goals with_reducible rfl
                              rotate_left
                              · simp only [Act.put, OpenRow.s1, OpenRow.s2, OpenRow.s3, i64_w, i32_w]; rfl
                              refine pure_ (i := 19) (N := some 113) (v := ?_) (a' := ?_) #[true, true, true, true, true, true, true, true, true, true, true, true, true, true, true, true, true, true, true, true, true, true, true, true, true, false, true, true, true, false, false] rfl rfl (by kernel_rfl) (fun _ _ _ h => h) (Or.inl ⟨by rfl, ?_⟩) ?_ ?_
                              rotate_left
                              · intro w'
                                go_simp; rw [X8.out]; all_goals with_reducible rfl
                              rotate_left
                              · simp only [Act.put, OpenRow.s1, OpenRow.s2, OpenRow.s3, i64_w, i32_w]; rfl
                              refine pure_ (i := 25) (N := some 119) (v := ?_) (a' := ?_) #[true, true, true, true, true, true, true, true, true, true, true, true, true, true, true, true, true, true, true, true, true, true, true, true, true, true, true, true, true, false, false] rfl rfl (by kernel_rfl) (fun _ _ _ h => h) (Or.inl ⟨by rfl, ?_⟩) ?_ ?_
                              rotate_left
                              · intro w'
                                go_simp; rw [X9.out]; all_goals with_reducible rfl
                              rotate_left
                              · simp only [Act.put, OpenRow.s1, OpenRow.s2, OpenRow.s3, i64_w, i32_w]; rfl
                              refine pure_ (i := 29) (N := some 123) (v := ?_) (a' := ?_) #[true, true, true, true, true, true, true, true, true, true, true, true, true, true, true, true, true, true, true, true, true, true, true, true, true, true, true, true, true, true, false] rfl rfl (by kernel_rfl) (fun _ _ _ h => h) (Or.inl ⟨by rfl, ?_⟩) ?_ ?_
                              rotate_left
                              · intro w'
                                go_simp; rw [X10.out]; all_goals with_reducible rfl
                              rotate_left
                              · simp only [Act.put, OpenRow.s1, OpenRow.s2, OpenRow.s3, i64_w, i32_w]; rfl
                              refine pure_ (i := 30) (N := some 20) (v := ?_) (a' := ?_) #[true, true, true, true, true, true, true, true, true, true, true, true, true, true, true, true, true, true, true, true, true, true, true, true, true, true, true, true, true, true, true] rfl rfl (by kernel_rfl) (fun _ _ _ h => h) (Or.inl ⟨by rfl, ?_⟩) ?_ ?_
                              rotate_left
                              · intro w'; go_simp; with_reducible rfl
                              rotate_left
                              · simp only [Act.put, OpenRow.s1, OpenRow.s2, OpenRow.s3, i64_w, i32_w]; rfl
                              refine done_ (by kernel_rfl) ?_

                              go_wp2_with (first
                                | ((with_reducible refine (Q28.out _).mono ?_); rintro e w4 ⟨rfl, hd⟩; have V4 := Aside0.mk (V3.out.step (drawn_below hd)); have G4 := Aside0.mk (blk_below G3.out (drawn_below hd)); clear hd)
                                | ((with_reducible refine (Q34.out _).mono ?_); rintro e w5 ⟨rfl, hd⟩; have V5 := Aside0.mk (V4.out.step (drawn_below hd)); have G5 := Aside0.mk (blk_below G4.out (drawn_below hd)); clear hd)
                                | ((with_reducible refine (Q39.out _).mono ?_); rintro e w6 ⟨rfl, hd⟩; have V6 := Aside0.mk (V5.out.step (drawn_below hd)); have G6 := Aside0.mk (blk_below G5.out (drawn_below hd)); have hc3 := blk_get G6.out 3 L3v.out; rw [← HV3.out] at hc3; clear hd; revert hc3))
                              intro hc3
                              iterate 87 go_step
                              refine wp_bld rfl #[(0, .int .u64 (IntKind.u64.wrap (t1 + IntKind.u64.wrap (bits .xor .u64 (bits .xor .u64 r28 r34) r39 + bits .xor .u64 (bits .xor .u64 (bits .and .u64 va vb) (bits .and .u64 va vc)) (bits .and .u64 vb vc))))), (1, .int .u64 va), (2, .int .u64 vb), (3, .int .u64 vc), (4, .int .u64 (IntKind.u64.wrap (vd + t1))), (5, .int .u64 ve), (6, .int .u64 vf), (7, .int .u64 vg)] (by rw [List.map_toArray]; rfl) (bld8 _ _ _ _ _ _ _ _ _) ?_
                              go_step
                              refine st_arr rfl 47 (.tmp 12) (.tmp 157) rfl g12 (xs := [IntKind.u64.wrap (t1 + IntKind.u64.wrap (bits .xor .u64 (bits .xor .u64 r28 r34) r39 + bits .xor .u64 (bits .xor .u64 (bits .and .u64 va vb) (bits .and .u64 va vc)) (bits .and .u64 vb vc))), va, vb, vc, IntKind.u64.wrap (vd + t1), ve, vf, vg]) rfl rfl G6.out (m := 8) (by kernel_rfl) rfl (by rw [HVL.out]; rfl) ?_; intro w7 h1 h2 h4 h3; have G7 := Aside0.mk h1; have S7 := Aside0.mk (St.other V6.out h2 h3 E12.out); clear h1 h2 h3 h4
                              (repeat go_step)
                              go_roundg (80 - (k + 1))
                              case measure => omega
                              case rel => exact ⟨k + 1, by omega, by omega, by go_num, S7, by rw [EQ.out]; exact G7⟩
                    · obtain rfl : k = 80 := by omega
                      have hneg3 : ¬ ((80 : Nat) : Int) < 80 := by omega
                      as_aux_lemma =>
                        clear hlt hg hk
                        have HVL := Aside0.mk (rds_length K Ws h HH.out 80)
                        have e12 : w.heap.size + 3 ≤ g12 := E12.out
                        have NE := Aside0.mk (show g12 ≠ w.heap.size by omega)
                        clear e12
                        generalize rds K Ws h 80 = vs at *
                        go_wp2
                        as_aux_lemma =>
                          go_loopg [22, 159] 9 (fun gg _ v159 wr => ∃ k : Nat, k ≤ 8 ∧ 8 - k ≤ gg ∧ v159 = .int .i64 k ∧ Aside0 (St w [⟨47, .u64, addH h vs k⟩, ⟨47, .u64, z8⟩, ⟨49, .u64, Ws⟩] wr) ∧ Aside0 (wr.heap[g12]? = some (.cells (arr .u64 vs) 47 (0, 0))))
                          case atStart => exact ⟨0, by omega, by omega, rfl, S, G⟩
                          case round =>
                            clear S G
                            obtain ⟨k, hk, hg, rfl, S, G⟩ := hrel
                            by_cases hlt : k < 8
                            · have hlti : (k : Int) < 8 := by omega
                              have HAL := Aside0.mk (addH_length h vs k)
                              have EQ := Aside0.mk (show addH h vs (k + 1) = (addH h vs k).set k (w6 ((addH h vs k).getD k 0 + vs.getD k 0)) from rfl)
                              unfold w6 at EQ
                              generalize addH h vs k = us at *
                              obtain ⟨a, ha⟩ : ∃ x, x = us.getD k 0 := ⟨_, rfl⟩
                              obtain ⟨b1, hb1⟩ : ∃ x, x = vs.getD k 0 := ⟨_, rfl⟩
                              have hcu := S.out.cell 0 rfl k (by rw [HAL.out, HH.out]; omega)
                              have hcv := blk_get G.out k (by rw [HVL.out]; omega)
                              have hfu := blk_frozen (S.out.blk 0 rfl) k
                              rw [← ha] at hcu EQ
                              rw [← hb1] at hcv EQ
                              rw [Nat.add_zero] at hcu hfu
                              have P1 := Aside0.mk ((S.out.set 0 rfl k (IntKind.u64.wrap (a + b1))).drew)
                              have PG := Aside0.mk (blk_drew (blk_far G.out (p := ⟨w.heap.size, k, none⟩) NE.out (.int .u64 (IntKind.u64.wrap (a + b1)))))
                              clear ha hb1
                              go_wp2
                              go_region
                              go_wp2
                              go_roundg (8 - (k + 1))
                              case measure => omega
                              case rel => exact ⟨k + 1, by omega, by omega, by go_num, by rw [EQ.out]; exact P1, PG⟩
                            · obtain rfl : k = 8 := by omega
                              have hneg4 : ¬ ((8 : Nat) : Int) < 8 := by omega
                              have HAL := Aside0.mk ((addH_length h vs 8).trans HH.out)
                              as_aux_lemma =>
                                clear hlt hg hk
                                generalize addH h vs 8 = us at *
                                go_wp2_with (first
                                  | ((with_reducible refine gate_dst (N := 171) rfl ?_); refine ld_arr rfl 47 (.tmp 3) rfl w.heap.size rfl (S.out.blk 0 rfl) Try.underlying47 (m := 8) (by kernel_rfl) HAL.out ?_)
                                  | (refine st_arr rfl 47 (.tmp 6) (.tmp 171) rfl (w.heap.size + 1) (xs := us) rfl rfl (S.out.blk 1 rfl) (m := 8) (by kernel_rfl) HAL.out (by rw [HAL.out]; rfl) ?_; intro w' h1 h2 h4 h3; have H1 := Aside0.mk h1; have S9 := Aside0.mk (S.out.row 1 rfl h1 h2 h3); clear h1 h2 h3 h4))
                                exact bodyPost_ret (results_cell_row Try.results25 _ _ (w.heap.size + 1) 47 _ (0, 0) _ rfl H1.out Try.underlying47 rfl (by rw [arr_size, HAL.out]; kernel_rfl)) rfl ⟨by rw [EB.out], S9.out.below⟩


end Go.Proofs.Ytlphppkhihabdaa.XN
