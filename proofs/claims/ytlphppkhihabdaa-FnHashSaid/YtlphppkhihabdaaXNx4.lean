-- Written by a program of this session (xp.py over the kit's printer, with functions proved by hand). Lean checks it.
import Derived.Test.YtlphppkhihabdaaXNx0
import Derived.Test.YtlphppkhihabdaaXNx3
namespace Go.Proofs.Ytlphppkhihabdaa.XN
open Go.Proofs.Ytlphppkhihabdaa.Limb Go.Proofs.Ytlphppkhihabdaa.Arr Go.Proofs.Ytlphppkhihabdaa.FldA Go.Proofs.Ytlphppkhihabdaa.FldB Go.Proofs.Ytlphppkhihabdaa.FldC Go.Proofs.Ytlphppkhihabdaa.FldS Go.Proofs.Ytlphppkhihabdaa.St Go.Proofs.Ytlphppkhihabdaa.OpenS Go.Proofs.Ytlphppkhihabdaa.StOps Go.Proofs.Ytlphppkhihabdaa.StMid Go.Proofs.Ytlphppkhihabdaa.StIdx Go.Proofs.Ytlphppkhihabdaa.StPt Go.Proofs.Ytlphppkhihabdaa.StBd Go.Proofs.Ytlphppkhihabdaa.ShaA Go.Proofs.Ytlphppkhihabdaa.ShaB Go.Proofs.Ytlphppkhihabdaa.ShaS
open Go.RowKit Go.Proofs.YtlphppkhihabdaaW.PrintWords Go.Proofs.YtlphppkhihabdaaW.PrintLast Go.Proofs.YtlphppkhihabdaaW.PrintMore
attribute [local go_sem] max2_int min2_int max_two min_two max_three min_three max_four min_four   -- for this text's walks alone
set_option linter.unusedVariables false
set_option linter.unusedSimpArgs false

/-! ### spec_l06Hash_block: function 20 -/
theorem drawn_belowB {w w' : World} (h : Drawn0 w w') : Below w.heap.size w w' := by
  obtain ⟨m, rfl⟩ := h
  exact pw_below_drewN (Below.refl _ _) m
theorem shr7B (x : Int) : shr .u64 x 7 = x / 128 := rfl
theorem shr6B (x : Int) : shr .u64 x 6 = x / 64 := rfl
theorem w64nB (n : Nat) (h : (n : Int) < 80) : wrap64 (n : Int) = (n : Int) := by unfold wrap64; omega
theorem turn_calls (x : Int) (n : Nat) (w : World) (h0 : 0 < n) (h1 : n < 64) : Calls Try.prog 28 #[.int .u64 x, .int .i64 (n : Int)] w fun e w' => e = .returned (.int .u64 (rr x n)) ∧ Drawn0 w w' :=
  spec_l06Turn.calls x n (rr x n) w (by
    have hk : ∀ m : Nat, m < 64 → 0 < m → IntKind.u64.wrap ((m : Nat) : Int) = (m : Int) ∧ IntKind.u64.wrap (wrap64 (64 - (m : Int))) = ((64 - m : Nat) : Int) := by decide +kernel
    obtain ⟨k1, k2⟩ := hk n h1 h0
    unfold spec_l06Turn.f
    rw [k1, k2, if_pos (by omega), if_pos (by omega)]
    rfl)
theorem cellC {k : IntKind} {w : World} {A : Option Addr} {n : Nat} {xs : List Int} (h : Kd.C (Kd.int k) w A n xs) (i : Nat) (hi : i < n) : ∃ ad, A = some ad ∧ w.cell? (ad.add i) = some (.int k (xs.getD i 0)) := by
  obtain ⟨ad, e2, h2⟩ := Kd.at_int h (i : Int) (by omega) (by omega)
  exact ⟨ad, e2, by simpa [rd] using h2⟩
theorem cellR {k : IntKind} {t : TypeId} {w : World} {base g n c i : Nat} {ok : Nat → Prop} {xs : List Int} (h : Kd.R (Kd.int k) t w base ok (.slice (some ⟨g, 0, none⟩) n c) xs) (hl : xs.length = n) (hi : i < n) : w.cell? ⟨g, i, none⟩ = some (.int k (xs.getD i 0)) := by
  subst hl
  obtain ⟨A, c, e, _, hC⟩ := Kd.R_reads h
  cases e
  obtain ⟨ad, e2, h2⟩ := cellC hC i hi
  cases e2
  have h3 : (⟨g, 0, none⟩ : Addr).add i = ⟨g, i, none⟩ := by unfold Addr.add; split <;> simp_all
  rw [h3] at h2; exact h2
theorem putU {w : World} {base g n c : Nat} {ok : Nat → Prop} {xs : List Int} (h : Kd.R (Kd.int .u64) 32 w base ok (.slice (some ⟨g, 0, none⟩) n c) xs) (i : Nat) (v : Int) : Kd.R (Kd.int .u64) 32 (w.setCell ⟨g, i, none⟩ (.int .u64 v)).drew base ok (.slice (some ⟨g, 0, none⟩) n c) (xs.set i v) := by
  have h1 := Kd.R_putn h (i : Int) v
  rw [Int.toNat_natCast] at h1
  exact Kd.R_drew h1
theorem fresh_ne {w : World} {v2 : Value} {gw cw : Nat} {base : Nat} {ok : Nat → Prop} {Ws : List Int} (h : ∃ b, v2.ownBlock = some b ∧ w.heap.size ≤ b) (hw : Kd.R (Kd.int .u64) 32 w base ok (.slice (some ⟨gw, 0, none⟩) 80 cw) Ws) (k : Nat) (e1 : v2.ownBlock = some k) (e2 : some k = (Value.slice (some ⟨gw, 0, none⟩) 80 cw).ownBlock) : False := by
  obtain ⟨b, hb, hle⟩ := h
  have := Kd.R_lt hw k e2.symm
  rw [hb] at e1; cases e1; omega
theorem bs8 (a b c d e f g h : Int) (W : World) : (Instr.buildSlice 37 8 #[(0, .int .u64 a), (1, .int .u64 b), (2, .int .u64 c), (3, .int .u64 d), (4, .int .u64 e), (5, .int .u64 f), (6, .int .u64 g), (7, .int .u64 h)]).run Try.prog W = .ok (.slice (some ⟨W.heap.size, 0, none⟩) 8 8) (W.alloc (.cells #[.int .u64 a, .int .u64 b, .int .u64 c, .int .u64 d, .int .u64 e, .int .u64 f, .int .u64 g, .int .u64 h] 32)) := by kernel_rfl
theorem run_bs {P : Program} {ρ : Operand → Value} {o : Oper} {w : World} {t : TypeId} {n : Nat} {parts : Array (Nat × Operand)} {v : Value} {w2 : World} (ho : o.op = .buildSlice t n parts) (ps : Array (Nat × Value)) (_u : Unit) (hp : (parts.map fun (i, x) => (i, ρ x)) = ps) (h : (Instr.buildSlice t n ps).run P w = .ok v w2) : (execOp ρ o).run P w = .ok (.value v) w2 := by
  subst hp
  unfold execOp
  simp only [ho, Sem.run_bind, h, Result.andThen_ok]
  rfl
theorem fresh_ne3 {k : IntKind} {t : TypeId} {w : World} {v2 v : Value} {base : Nat} {ok : Nat → Prop} {xs : List Int} (h : ∃ b, v2.ownBlock = some b ∧ w.heap.size ≤ b) (hw : Kd.R (Kd.int k) t w base ok v xs) : ∀ q, v2.ownBlock = some q → v.ownBlock ≠ some q := by
  intro q e1 e2
  obtain ⟨b, hb, hle⟩ := h
  have := Kd.R_lt hw q e2
  rw [hb] at e1; cases e1; omega
theorem infoU : (Try.prog.info? 32).map (fun i => (i.zero, i.size, i.bytes)) = some (some (.int .u64 0), 1, 8) := by kernel_rfl
theorem frozenR {k : IntKind} {t : TypeId} {w : World} {base g n c : Nat} {ok : Nat → Prop} {xs : List Int} (h : Kd.R (Kd.int k) t w base ok (.slice (some ⟨g, 0, none⟩) n c) xs) (hn : 0 < xs.length) (i : Nat) : w.frozen? ⟨g, i, none⟩ = false := by
  obtain ⟨g1, c1, e, _, _, cells, hc⟩ := Kd.R_form h hn
  cases e
  exact blk_frozen hc i
set_option maxHeartbeats 40000000 in
set_option maxRecDepth 100000 in
theorem spec_block.calls (gX : Nat) (Ak : Option Addr) (ck : Nat) (vh : Value) (K : List Int) (Ah : Option Addr) (ch : Nat) (h : List Int) (A : Option Addr) (c : Nat) (b : List Int) (w : World)
    (hx : w.heap[gX]? = some (.cells #[.slice Ak 80 ck, vh] 39 (0, 0))) (hk : Kd.C (Kd.int .u64) w Ak 80 K) (hkl : K.length = 80) (hh : Kd.C (Kd.int .u64) w Ah 8 h) (hhl : h.length = 8) (hb : Kd.C (Kd.int .u8) w A 128 b) (hbl : b.length = 128) (hc : 128 ≤ c) :
    Calls Try.prog 20 #[.pointer (some ⟨gX, 0, none⟩), .slice Ah 8 ch, .slice A 128 c] w fun e w' => ∃ v, e = .returned v ∧ Kd.R (Kd.int .u64) 32 w' w.heap.size (fun _ => True) v (blkS K h b) ∧ Below w.heap.size w w' := by
  have infoE : (Try.prog.info? 32).map (fun i => (i.zero, i.size, i.bytes)) = some (some (.int .u64 0), 1, 8) := by kernel_rfl
  have INFO := Aside0.mk infoE
  have GX := Aside0.mk hx
  have HK := Aside0.mk hk
  have HKL := Aside0.mk hkl
  have HH := Aside0.mk hh
  have HHL := Aside0.mk hhl
  have HB := Aside0.mk hb
  have HBL := Aside0.mk hbl
  have HC := Aside0.mk hc
  clear hx hk hkl hh hhl hb hbl hc infoE
  go_enter Try.func20, Try.ntmps20
  go_wp2_with (first
    | ((with_reducible refine gate_dst (N := 22) rfl ?_); refine Kd.R_make (Kd.int .u64) _ 32 rfl (N := 22) rfl 37 _ _ rfl (80 : Int) rfl rfl Try.underlying37 (.int .u64 0) 8 INFO.out rfl (by decide) (by omega) 0 (ok := fun _ => True) (okp := fun _ => True) rfl (fun _ hk => hk) trivial (by decide) (by decide) (Below.refl _ _) (Nat.le_refl _) ?_; intro v1 w1 ho hb hg_ hnew_; have RW := Aside0.mk ho; have B1 := Aside0.mk hb; clear ho hb hg_ hnew_))
  rw [show List.replicate (Int.toNat 80) (0 : Int) = wA b 0 from rfl] at RW
  obtain ⟨gw, cw, ew, hgw, _, _⟩ := Kd.R_form RW.out (by rw [wA_length]; decide)
  subst ew
  have HGW := Aside0.mk hgw
  clear hgw
  rw [wA_length] at RW ⊢
  as_aux_lemma =>
    go_loopg [8, 9] 17 (fun gg v8 v9 wr => ∃ i : Nat, i ≤ 16 ∧ 16 - i ≤ gg ∧ v8 = .int .i64 i ∧ Aside0 (Kd.R (Kd.int .u64) 32 wr w.heap.size (fun _ => True) (.slice (some ⟨gw, 0, none⟩) 80 cw) (wA b i)) ∧ Aside0 (Below w.heap.size w wr))
    case atStart => exact ⟨0, by omega, by omega, rfl, RW, B1⟩
    case round =>
      clear RW B1
      obtain ⟨i, hi, hg, rfl, RW, B1⟩ := hrel
      by_cases hlt : i < 16
      · have hlti : (i : Int) < 16 := by omega
        have AZ := Aside0.mk (wAk_zero b i (by omega))
        go_wp2
        as_aux_lemma =>
          go_loopg [9] 9 (fun gg v9 wr => ∃ k : Nat, k ≤ 8 ∧ 8 - k ≤ gg ∧ v9 = .int .i64 k ∧ Aside0 (Kd.R (Kd.int .u64) 32 wr w.heap.size (fun _ => True) (.slice (some ⟨gw, 0, none⟩) 80 cw) (wAk b i k)) ∧ Aside0 (Below w.heap.size w wr))
          case atStart => exact ⟨0, by omega, by omega, rfl, by rw [AZ.out]; exact RW, B1⟩
          case round =>
            clear RW B1 AZ
            obtain ⟨k, hk, hg2, rfl, RW, B1⟩ := hrel
            by_cases hlt2 : k < 8
            · have hltk : (k : Int) < 8 := by omega
              obtain ⟨adB, eB, hcb⟩ := cellC (Kd.C_below HB.out B1.out) (8 * i + k) (by omega)
              subst eB
              have hcw := cellR RW.out (wAk_length b i k) (i := i) (by omega)
              have hfw := frozenR RW.out (by rw [wAk_length]; decide) i
              have EQ := Aside0.mk (wAk_next b HBL.out i k hlt hlt2)
              unfold w6 at EQ
              have PUT := Aside0.mk (fun v => putU RW.out i v)
              have PB := Aside0.mk (fun v => below_drew (below_set (j := i) (v := .int .u64 v) B1.out HGW.out))
              obtain ⟨x, hx⟩ : ∃ x, x = (wAk b i k).getD i 0 := ⟨_, rfl⟩
              obtain ⟨y, hy⟩ : ∃ y, y = b.getD (8 * i + k) 0 := ⟨_, rfl⟩
              rw [← hx] at hcw EQ
              rw [← hy] at hcb EQ
              obtain ⟨m, hm⟩ : ∃ m, m = 8 * i := ⟨_, rfl⟩
              obtain ⟨n, hn⟩ : ∃ n, n = 8 * i + k := ⟨_, rfl⟩
              have e1 : 8 * (i : Int) = (m : Int) := by omega
              have e2 : (m : Int) + (k : Int) = (n : Int) := by omega
              have e3 : (n : Int) < 128 := by omega
              have e4 : (i : Int) < 80 := by omega
              rw [← hn] at hcb hy
              clear hm hn
              clear hx hy
              go_wp2
              go_region
              go_wp2
              go_roundg (8 - (k + 1))
              case measure => omega
              case rel => exact ⟨k + 1, by omega, by omega, by go_num, by rw [EQ.out]; exact ⟨PUT.out _⟩, ⟨PB.out _⟩⟩
            · obtain rfl : k = 8 := by omega
              as_aux_lemma =>
                have hneg : ¬ ((8 : Nat) : Int) < 8 := by omega
                rw [show wAk b i 8 = wA b (i + 1) from rfl] at RW
                go_wp2
                go_roundg (16 - (i + 1))
                case measure => omega
                case rel => exact ⟨i + 1, by omega, by omega, by go_num, RW, B1⟩
      · obtain rfl : i = 16 := by omega
        as_aux_lemma =>
          have hneg : ¬ ((16 : Nat) : Int) < 16 := by omega
          rw [show wA b 16 = wB b 0 from rfl] at RW
          go_wp2
          as_aux_lemma =>
            go_loopg [10, 11, 12] 65 (fun gg v10 _ _ wr => ∃ i : Nat, 16 ≤ i ∧ i ≤ 80 ∧ 80 - i ≤ gg ∧ v10 = .int .i64 i ∧ Aside0 (Kd.R (Kd.int .u64) 32 wr w.heap.size (fun _ => True) (.slice (some ⟨gw, 0, none⟩) 80 cw) (wB b (i - 16))) ∧ Aside0 (Below w.heap.size w wr))
            case atStart => exact ⟨16, by omega, by omega, by omega, rfl, RW, B1⟩
            case round =>
              clear RW B1
              obtain ⟨i, hi0, hi, hg, rfl, RW, B1⟩ := hrel
              by_cases hlt : i < 80
              · have hlti : (i : Int) < 80 := by omega
                have HWL := Aside0.mk (wB_length b (i - 16))
                have EQ := Aside0.mk (show wB b (i + 1 - 16) = (wB b (i - 16)).set i (wNx (wB b (i - 16)) i) by
                  rw [show i + 1 - 16 = (i - 16) + 1 by omega, wB, show i - 16 + 16 = i by omega])
                unfold wNx at EQ
                generalize wB b (i - 16) = Ws at *
                obtain ⟨n15, h15⟩ : ∃ n, n = i - 15 := ⟨_, rfl⟩
                obtain ⟨n2, h2⟩ : ∃ n, n = i - 2 := ⟨_, rfl⟩
                obtain ⟨n16, h16⟩ : ∃ n, n = i - 16 := ⟨_, rfl⟩
                obtain ⟨n7, h7⟩ : ∃ n, n = i - 7 := ⟨_, rfl⟩
                rw [← h15, ← h2, ← h16, ← h7] at EQ
                have i15 : (i : Int) - 15 = (n15 : Int) := by omega
                have i2 : (i : Int) - 2 = (n2 : Int) := by omega
                have i16 : (i : Int) - 16 = (n16 : Int) := by omega
                have i7 : (i : Int) - 7 = (n7 : Int) := by omega
                have l15 : (n15 : Int) < 80 := by omega
                have l2 : (n2 : Int) < 80 := by omega
                have l16 : (n16 : Int) < 80 := by omega
                have l7 : (n7 : Int) < 80 := by omega
                obtain ⟨x, hx⟩ : ∃ x, x = Ws.getD n15 0 := ⟨_, rfl⟩
                obtain ⟨y, hy⟩ : ∃ x, x = Ws.getD n2 0 := ⟨_, rfl⟩
                obtain ⟨a, ha⟩ : ∃ x, x = Ws.getD n16 0 := ⟨_, rfl⟩
                obtain ⟨c7, hc7⟩ : ∃ x, x = Ws.getD n7 0 := ⟨_, rfl⟩
                rw [← hx, ← hy, ← ha, ← hc7] at EQ
                have C15 := Aside0.mk (fun W (hW : Kd.R (Kd.int .u64) 32 W w.heap.size (fun _ => True) (.slice (some ⟨gw, 0, none⟩) 80 cw) Ws) => (by rw [hx]; exact cellR hW HWL.out (by omega) : W.cell? ⟨gw, n15, none⟩ = some (.int .u64 x)))
                have C2 := Aside0.mk (fun W (hW : Kd.R (Kd.int .u64) 32 W w.heap.size (fun _ => True) (.slice (some ⟨gw, 0, none⟩) 80 cw) Ws) => (by rw [hy]; exact cellR hW HWL.out (by omega) : W.cell? ⟨gw, n2, none⟩ = some (.int .u64 y)))
                have C16 := Aside0.mk (fun W (hW : Kd.R (Kd.int .u64) 32 W w.heap.size (fun _ => True) (.slice (some ⟨gw, 0, none⟩) 80 cw) Ws) => (by rw [ha]; exact cellR hW HWL.out (by omega) : W.cell? ⟨gw, n16, none⟩ = some (.int .u64 a)))
                have C7 := Aside0.mk (fun W (hW : Kd.R (Kd.int .u64) 32 W w.heap.size (fun _ => True) (.slice (some ⟨gw, 0, none⟩) 80 cw) Ws) => (by rw [hc7]; exact cellR hW HWL.out (by omega) : W.cell? ⟨gw, n7, none⟩ = some (.int .u64 c7)))
                have LI := Aside0.mk (show i < Ws.length by rw [HWL.out]; omega)
                clear h15 h2 h16 h7 hx hy ha hc7
                have R1 := Aside0.mk (fun W => (show Calls Try.prog 28 #[.int .u64 x, .int .i64 1] W fun e w' => e = .returned (.int .u64 (rr x 1)) ∧ Drawn0 W w' from turn_calls x 1 W (by decide) (by decide)))
                have R8 := Aside0.mk (fun W => (show Calls Try.prog 28 #[.int .u64 x, .int .i64 8] W fun e w' => e = .returned (.int .u64 (rr x 8)) ∧ Drawn0 W w' from turn_calls x 8 W (by decide) (by decide)))
                have R19 := Aside0.mk (fun W => (show Calls Try.prog 28 #[.int .u64 y, .int .i64 19] W fun e w' => e = .returned (.int .u64 (rr y 19)) ∧ Drawn0 W w' from turn_calls y 19 W (by decide) (by decide)))
                have R61 := Aside0.mk (fun W => (show Calls Try.prog 28 #[.int .u64 y, .int .i64 61] W fun e w' => e = .returned (.int .u64 (rr y 61)) ∧ Drawn0 W w' from turn_calls y 61 W (by decide) (by decide)))
                unfold sA sB at EQ
                rw [shr7B, shr6B] at EQ
                unfold w6 at EQ
                generalize rr x 1 = r1 at *
                generalize rr x 8 = r8 at *
                generalize rr y 19 = r19 at *
                generalize rr y 61 = r61 at *
                obtain ⟨p1, hx⟩ : ∃ p, bits .xor .u64 r1 r8 = p := ⟨_, rfl⟩
                rw [hx] at EQ
                have X1 := Aside0.mk hx
                clear hx
                obtain ⟨p2, hx⟩ : ∃ p, x / 128 = p := ⟨_, rfl⟩
                rw [hx] at EQ
                have X2 := Aside0.mk hx
                clear hx
                obtain ⟨sa, hx⟩ : ∃ p, bits .xor .u64 p1 p2 = p := ⟨_, rfl⟩
                rw [hx] at EQ
                have X3 := Aside0.mk hx
                clear hx
                obtain ⟨p6, hx⟩ : ∃ p, bits .xor .u64 r19 r61 = p := ⟨_, rfl⟩
                rw [hx] at EQ
                have X4 := Aside0.mk hx
                clear hx
                obtain ⟨p7, hx⟩ : ∃ p, y / 64 = p := ⟨_, rfl⟩
                rw [hx] at EQ
                have X5 := Aside0.mk hx
                clear hx
                obtain ⟨sb, hx⟩ : ∃ p, bits .xor .u64 p6 p7 = p := ⟨_, rfl⟩
                rw [hx] at EQ
                have X6 := Aside0.mk hx
                clear hx
                have v15 := w64nB n15 l15
                have v2 := w64nB n2 l2
                have V0 := Aside0.mk (Kd.R_drew RW.out)
                have Z0 := Aside0.mk (below_drew B1.out)
                clear RW B1
                go_wp2
                refine start_ (n := 21) (S := fun w' => w'.cell? ⟨gw, n15, none⟩ = some (.int .u64 x)) (ds := []) #[false, false, false, false, false, false, false, false, false, false, false, false, false, false, false, false, false, false, false, false, false] (by kernel_rfl) rfl rfl (C15.out _ V0.out) (fun hHeld => ?_)
                refine pure_ (i := 0) (N := some 52) (v := ?_) (a' := ?_) #[true, false, false, false, false, false, false, false, false, false, false, false, false, false, false, false, false, false, false, false, false] rfl rfl (by kernel_rfl) (fun _ _ _ h => h) (Or.inl ⟨by rfl, ?_⟩) ?_ ?_
                rotate_left
                · intro w'; go_simp; with_reducible rfl
                rotate_left
                · simp only [Act.put, OpenRow.s1, OpenRow.s2, OpenRow.s3, i64_w, i32_w]; rfl
                refine pure_ (i := 1) (N := some 53) (v := ?_) (a' := ?_) #[true, true, false, false, false, false, false, false, false, false, false, false, false, false, false, false, false, false, false, false, false] rfl rfl (by kernel_rfl) (fun _ _ _ h => h) (Or.inl ⟨by rfl, ?_⟩) ?_ ?_
                rotate_left
                · intro w'; go_simp; with_reducible rfl
                rotate_left
                · simp only [Act.put, OpenRow.s1, OpenRow.s2, OpenRow.s3, i64_w, i32_w]; rfl
                refine pure_ (i := 2) (N := some 54) (v := ?_) (a' := ?_) #[true, true, true, false, false, false, false, false, false, false, false, false, false, false, false, false, false, false, false, false, false] rfl rfl (by kernel_rfl) (fun _ _ _ h => h) (Or.inl ⟨by rfl, ?_⟩) ?_ ?_
                rotate_left
                · intro w'; go_simp; with_reducible rfl
                rotate_left
                · simp only [Act.put, OpenRow.s1, OpenRow.s2, OpenRow.s3, i64_w, i32_w]; rfl
                refine pure_ (i := 3) (N := some 55) (v := ?_) (a' := ?_) #[true, true, true, true, false, false, false, false, false, false, false, false, false, false, false, false, false, false, false, false, false] rfl rfl (by kernel_rfl) (fun _ _ _ h => h) (Or.inl ⟨by rfl, ?_⟩) ?_ ?_
                rotate_left
                · intro w'; go_simp; with_reducible rfl
                rotate_left
                · simp only [Act.put, OpenRow.s1, OpenRow.s2, OpenRow.s3, i64_w, i32_w]; rfl
                refine pure_ (i := 6) (N := some 58) (v := ?_) (a' := ?_) #[true, true, true, true, false, false, true, false, false, false, false, false, false, false, false, false, false, false, false, false, false] rfl rfl (by kernel_rfl) (fun _ _ _ h => h) (Or.inl ⟨by rfl, ?_⟩) ?_ ?_
                rotate_left
                · intro w'; go_simp; with_reducible rfl
                rotate_left
                · simp only [Act.put, OpenRow.s1, OpenRow.s2, OpenRow.s3, i64_w, i32_w]; rfl
                refine pure_ (i := 7) (N := some 59) (v := ?_) (a' := ?_) #[true, true, true, true, false, false, true, true, false, false, false, false, false, false, false, false, false, false, false, false, false] rfl rfl (by kernel_rfl) (fun _ _ _ h => h) (Or.inl ⟨by rfl, ?_⟩) ?_ ?_
                rotate_left
                · intro w'; go_simp; with_reducible rfl
                rotate_left
                · simp only [Act.put, OpenRow.s1, OpenRow.s2, OpenRow.s3, i64_w, i32_w]; rfl
                refine pure_ (i := 8) (N := some 60) (v := ?_) (a' := ?_) #[true, true, true, true, false, false, true, true, true, false, false, false, false, false, false, false, false, false, false, false, false] rfl rfl (by kernel_rfl) (fun _ _ _ h => h) (Or.inl ⟨by rfl, ?_⟩) ?_ ?_
                rotate_left
                · intro w'; go_simp; with_reducible rfl
                rotate_left
                · simp only [Act.put, OpenRow.s1, OpenRow.s2, OpenRow.s3, i64_w, i32_w]; rfl
                as_aux_lemma =>
                  refine pure_ (i := 9) (N := some 61) (v := ?_) (a' := ?_) #[true, true, true, true, false, false, true, true, true, true, false, false, false, false, false, false, false, false, false, false, false] rfl rfl (by kernel_rfl) (fun _ _ _ h => h) (Or.inl ⟨by rfl, ?_⟩) ?_ ?_
                  rotate_left
                  · intro w'; go_simp; with_reducible rfl
                  rotate_left
                  · simp only [Act.put, OpenRow.s1, OpenRow.s2, OpenRow.s3, i64_w, i32_w]; rfl
                  refine pure_ (i := 13) (N := some 65) (v := ?_) (a' := ?_) #[true, true, true, true, false, false, true, true, true, true, false, false, false, true, false, false, false, false, false, false, false] rfl rfl (by kernel_rfl) (fun _ _ _ h => h) (Or.inl ⟨by rfl, ?_⟩) ?_ ?_
                  rotate_left
                  · intro w'; go_simp; with_reducible rfl
                  rotate_left
                  · simp only [Act.put, OpenRow.s1, OpenRow.s2, OpenRow.s3, i64_w, i32_w]; rfl
                  refine pure_ (i := 14) (N := some 66) (v := ?_) (a' := ?_) #[true, true, true, true, false, false, true, true, true, true, false, false, false, true, true, false, false, false, false, false, false] rfl rfl (by kernel_rfl) (fun _ _ _ h => h) (Or.inl ⟨by rfl, ?_⟩) ?_ ?_
                  rotate_left
                  · intro w'; go_simp; with_reducible rfl
                  rotate_left
                  · simp only [Act.put, OpenRow.s1, OpenRow.s2, OpenRow.s3, i64_w, i32_w]; rfl
                  refine pure_ (i := 15) (N := some 67) (v := ?_) (a' := ?_) #[true, true, true, true, false, false, true, true, true, true, false, false, false, true, true, true, false, false, false, false, false] rfl rfl (by kernel_rfl) (fun _ _ _ h => h) (Or.inl ⟨by rfl, ?_⟩) ?_ ?_
                  rotate_left
                  · intro w'; go_simp; with_reducible rfl
                  rotate_left
                  · simp only [Act.put, OpenRow.s1, OpenRow.s2, OpenRow.s3, i64_w, i32_w]; rfl
                  refine pure_ (i := 16) (N := some 68) (v := ?_) (a' := ?_) #[true, true, true, true, false, false, true, true, true, true, false, false, false, true, true, true, true, false, false, false, false] rfl rfl (by kernel_rfl) (fun _ _ _ h => h) (Or.inl ⟨by rfl, ?_⟩) ?_ ?_
                  rotate_left
                  · intro w'; go_simp; with_reducible rfl
                  rotate_left
                  · simp only [Act.put, OpenRow.s1, OpenRow.s2, OpenRow.s3, i64_w, i32_w]; rfl
                  refine take_ (i := 4) (N := some 56) (v := ?_) (a' := ?_) #[true, true, true, true, true, false, true, true, true, true, false, false, false, true, true, true, true, false, false, false, false] rfl rfl (by kernel_rfl) (fun _ _ _ h => h) (Or.inl ⟨by rfl, ?_⟩) hHeld ?_ ?_
                  rotate_left
                  · intro w' s0
                    go_simp
                    with_reducible rfl
                  rotate_left
                  · simp only [Act.put, OpenRow.s1, OpenRow.s2, OpenRow.s3, i64_w, i32_w]; rfl
                  refine take_ (i := 10) (N := some 62) (v := ?_) (a' := ?_) #[true, true, true, true, true, false, true, true, true, true, true, false, false, true, true, true, true, false, false, false, false] rfl rfl (by kernel_rfl) (fun _ _ _ h => h) (Or.inl ⟨by rfl, ?_⟩) hHeld ?_ ?_
                  rotate_left
                  · intro w' s0
                    go_simp
                    with_reducible rfl
                  rotate_left
                  · simp only [Act.put, OpenRow.s1, OpenRow.s2, OpenRow.s3, i64_w, i32_w]; rfl
                  refine take_ (i := 17) (N := some 69) (v := ?_) (a' := ?_) #[true, true, true, true, true, false, true, true, true, true, true, false, false, true, true, true, true, true, false, false, false] rfl rfl (by kernel_rfl) (fun _ _ _ h => h) (Or.inl ⟨by rfl, ?_⟩) hHeld ?_ ?_
                  rotate_left
                  · intro w' s0
                    go_simp
                    with_reducible rfl
                  rotate_left
                  · simp only [Act.put, OpenRow.s1, OpenRow.s2, OpenRow.s3, i64_w, i32_w]; rfl
                  as_aux_lemma =>
                    refine pure_ (i := 18) (N := some 70) (v := ?_) (a' := ?_) #[true, true, true, true, true, false, true, true, true, true, true, false, false, true, true, true, true, true, true, false, false] rfl rfl (by kernel_rfl) (fun _ _ _ h => h) (Or.inl ⟨by rfl, ?_⟩) ?_ ?_
                    rotate_left
                    · intro w'
                      go_simp; rw [X2.out]; all_goals with_reducible rfl
                    rotate_left
                    · simp only [Act.put, OpenRow.s1, OpenRow.s2, OpenRow.s3, i64_w, i32_w]; rfl
                    refine one_ (i := 5) (N := some 57) #[true, true, true, true, true, true, true, true, true, true, true, false, false, true, true, true, true, true, true, false, false] rfl rfl (by kernel_rfl) (by decide) (fun K hK => ?_)
                    refine goes_ Try.func28 (by kernel_rfl) rfl #[.int .u64 x, .int .i64 1] (by rfl) rfl rfl (by simp only [List.map_toArray, List.map_cons, List.map_nil] <;> rfl) ?_
                    with_reducible refine (R1.out _).mono ?_
                    rintro e w3 ⟨rfl, hd⟩
                    refine ⟨_, rfl, ?_⟩
                    have V1 := Aside0.mk (Kd.R_below V0.out (drawn_belowB hd))
                    have Z1 := Aside0.mk (below_step Z0.out (drawn_belowB hd))
                    clear hd
                    refine hK.out _ _ (C15.out _ V1.out) (fun hHeld => ?_)
                    clear hK K
                    refine norm_ (a' := ?_) ?_ ?_
                    rotate_left
                    · show Act.put _ (some 57) _ = _
                      simp only [Act.put, OpenRow.s1, OpenRow.s2, OpenRow.s3, i64_w, i32_w]
                      rfl
                    refine one_ (i := 11) (N := some 63) #[true, true, true, true, true, true, true, true, true, true, true, true, false, true, true, true, true, true, true, false, false] rfl rfl (by kernel_rfl) (by decide) (fun K hK => ?_)
                    refine goes_ Try.func28 (by kernel_rfl) rfl #[.int .u64 x, .int .i64 8] (by rfl) rfl rfl (by simp only [List.map_toArray, List.map_cons, List.map_nil] <;> rfl) ?_
                    with_reducible refine (R8.out _).mono ?_
                    rintro e w3 ⟨rfl, hd⟩
                    refine ⟨_, rfl, ?_⟩
                    have V2 := Aside0.mk (Kd.R_below V1.out (drawn_belowB hd))
                    have Z2 := Aside0.mk (below_step Z1.out (drawn_belowB hd))
                    clear hd
                    refine hK.out _ _ (C15.out _ V2.out) (fun hHeld => ?_)
                    clear hK K
                    refine norm_ (a' := ?_) ?_ ?_
                    rotate_left
                    · show Act.put _ (some 63) _ = _
                      simp only [Act.put, OpenRow.s1, OpenRow.s2, OpenRow.s3, i64_w, i32_w]
                      rfl
                    refine pure_ (i := 12) (N := some 64) (v := ?_) (a' := ?_) #[true, true, true, true, true, true, true, true, true, true, true, true, true, true, true, true, true, true, true, false, false] rfl rfl (by kernel_rfl) (fun _ _ _ h => h) (Or.inl ⟨by rfl, ?_⟩) ?_ ?_
                    rotate_left
                    · intro w'
                      go_simp; rw [X1.out]; all_goals with_reducible rfl
                    rotate_left
                    · simp only [Act.put, OpenRow.s1, OpenRow.s2, OpenRow.s3, i64_w, i32_w]; rfl
                    refine pure_ (i := 19) (N := some 71) (v := ?_) (a' := ?_) #[true, true, true, true, true, true, true, true, true, true, true, true, true, true, true, true, true, true, true, true, false] rfl rfl (by kernel_rfl) (fun _ _ _ h => h) (Or.inl ⟨by rfl, ?_⟩) ?_ ?_
                    rotate_left
                    · intro w'
                      go_simp; rw [X3.out]; all_goals with_reducible rfl
                    rotate_left
                    · simp only [Act.put, OpenRow.s1, OpenRow.s2, OpenRow.s3, i64_w, i32_w]; rfl
                    refine pure_ (i := 20) (N := some 11) (v := ?_) (a' := ?_) #[true, true, true, true, true, true, true, true, true, true, true, true, true, true, true, true, true, true, true, true, true] rfl rfl (by kernel_rfl) (fun _ _ _ h => h) (Or.inl ⟨by rfl, ?_⟩) ?_ ?_
                    rotate_left
                    · intro w'; go_simp; with_reducible rfl
                    rotate_left
                    · simp only [Act.put, OpenRow.s1, OpenRow.s2, OpenRow.s3, i64_w, i32_w]; rfl
                    refine done_ (by kernel_rfl) ?_

                    clear V0 V1 Z0 Z1
                    as_aux_lemma =>
                      (repeat go_step)
                      have V0 := Aside0.mk (Kd.R_drew V2.out)
                      have Z0 := Aside0.mk (below_drew Z2.out)
                      clear V2 Z2
                      refine start_ (n := 21) (S := fun w' => w'.cell? ⟨gw, n2, none⟩ = some (.int .u64 y)) (ds := []) #[false, false, false, false, false, false, false, false, false, false, false, false, false, false, false, false, false, false, false, false, false] (by kernel_rfl) rfl rfl (C2.out _ V0.out) (fun hHeld => ?_)
                      refine pure_ (i := 0) (N := some 72) (v := ?_) (a' := ?_) #[true, false, false, false, false, false, false, false, false, false, false, false, false, false, false, false, false, false, false, false, false] rfl rfl (by kernel_rfl) (fun _ _ _ h => h) (Or.inl ⟨by rfl, ?_⟩) ?_ ?_
                      rotate_left
                      · intro w'; go_simp; with_reducible rfl
                      rotate_left
                      · simp only [Act.put, OpenRow.s1, OpenRow.s2, OpenRow.s3, i64_w, i32_w]; rfl
                      refine pure_ (i := 1) (N := some 73) (v := ?_) (a' := ?_) #[true, true, false, false, false, false, false, false, false, false, false, false, false, false, false, false, false, false, false, false, false] rfl rfl (by kernel_rfl) (fun _ _ _ h => h) (Or.inl ⟨by rfl, ?_⟩) ?_ ?_
                      rotate_left
                      · intro w'; go_simp; with_reducible rfl
                      rotate_left
                      · simp only [Act.put, OpenRow.s1, OpenRow.s2, OpenRow.s3, i64_w, i32_w]; rfl
                      as_aux_lemma =>
                        refine pure_ (i := 2) (N := some 74) (v := ?_) (a' := ?_) #[true, true, true, false, false, false, false, false, false, false, false, false, false, false, false, false, false, false, false, false, false] rfl rfl (by kernel_rfl) (fun _ _ _ h => h) (Or.inl ⟨by rfl, ?_⟩) ?_ ?_
                        rotate_left
                        · intro w'; go_simp; with_reducible rfl
                        rotate_left
                        · simp only [Act.put, OpenRow.s1, OpenRow.s2, OpenRow.s3, i64_w, i32_w]; rfl
                        refine pure_ (i := 3) (N := some 75) (v := ?_) (a' := ?_) #[true, true, true, true, false, false, false, false, false, false, false, false, false, false, false, false, false, false, false, false, false] rfl rfl (by kernel_rfl) (fun _ _ _ h => h) (Or.inl ⟨by rfl, ?_⟩) ?_ ?_
                        rotate_left
                        · intro w'; go_simp; with_reducible rfl
                        rotate_left
                        · simp only [Act.put, OpenRow.s1, OpenRow.s2, OpenRow.s3, i64_w, i32_w]; rfl
                        refine pure_ (i := 6) (N := some 78) (v := ?_) (a' := ?_) #[true, true, true, true, false, false, true, false, false, false, false, false, false, false, false, false, false, false, false, false, false] rfl rfl (by kernel_rfl) (fun _ _ _ h => h) (Or.inl ⟨by rfl, ?_⟩) ?_ ?_
                        rotate_left
                        · intro w'; go_simp; with_reducible rfl
                        rotate_left
                        · simp only [Act.put, OpenRow.s1, OpenRow.s2, OpenRow.s3, i64_w, i32_w]; rfl
                        refine pure_ (i := 7) (N := some 79) (v := ?_) (a' := ?_) #[true, true, true, true, false, false, true, true, false, false, false, false, false, false, false, false, false, false, false, false, false] rfl rfl (by kernel_rfl) (fun _ _ _ h => h) (Or.inl ⟨by rfl, ?_⟩) ?_ ?_
                        rotate_left
                        · intro w'; go_simp; with_reducible rfl
                        rotate_left
                        · simp only [Act.put, OpenRow.s1, OpenRow.s2, OpenRow.s3, i64_w, i32_w]; rfl
                        refine pure_ (i := 8) (N := some 80) (v := ?_) (a' := ?_) #[true, true, true, true, false, false, true, true, true, false, false, false, false, false, false, false, false, false, false, false, false] rfl rfl (by kernel_rfl) (fun _ _ _ h => h) (Or.inl ⟨by rfl, ?_⟩) ?_ ?_
                        rotate_left
                        · intro w'; go_simp; with_reducible rfl
                        rotate_left
                        · simp only [Act.put, OpenRow.s1, OpenRow.s2, OpenRow.s3, i64_w, i32_w]; rfl
                        refine pure_ (i := 9) (N := some 81) (v := ?_) (a' := ?_) #[true, true, true, true, false, false, true, true, true, true, false, false, false, false, false, false, false, false, false, false, false] rfl rfl (by kernel_rfl) (fun _ _ _ h => h) (Or.inl ⟨by rfl, ?_⟩) ?_ ?_
                        rotate_left
                        · intro w'; go_simp; with_reducible rfl
                        rotate_left
                        · simp only [Act.put, OpenRow.s1, OpenRow.s2, OpenRow.s3, i64_w, i32_w]; rfl
                        refine pure_ (i := 13) (N := some 85) (v := ?_) (a' := ?_) #[true, true, true, true, false, false, true, true, true, true, false, false, false, true, false, false, false, false, false, false, false] rfl rfl (by kernel_rfl) (fun _ _ _ h => h) (Or.inl ⟨by rfl, ?_⟩) ?_ ?_
                        rotate_left
                        · intro w'; go_simp; with_reducible rfl
                        rotate_left
                        · simp only [Act.put, OpenRow.s1, OpenRow.s2, OpenRow.s3, i64_w, i32_w]; rfl
                        refine pure_ (i := 14) (N := some 86) (v := ?_) (a' := ?_) #[true, true, true, true, false, false, true, true, true, true, false, false, false, true, true, false, false, false, false, false, false] rfl rfl (by kernel_rfl) (fun _ _ _ h => h) (Or.inl ⟨by rfl, ?_⟩) ?_ ?_
                        rotate_left
                        · intro w'; go_simp; with_reducible rfl
                        rotate_left
                        · simp only [Act.put, OpenRow.s1, OpenRow.s2, OpenRow.s3, i64_w, i32_w]; rfl
                        as_aux_lemma =>
                          refine pure_ (i := 15) (N := some 87) (v := ?_) (a' := ?_) #[true, true, true, true, false, false, true, true, true, true, false, false, false, true, true, true, false, false, false, false, false] rfl rfl (by kernel_rfl) (fun _ _ _ h => h) (Or.inl ⟨by rfl, ?_⟩) ?_ ?_
                          rotate_left
                          · intro w'; go_simp; with_reducible rfl
                          rotate_left
                          · simp only [Act.put, OpenRow.s1, OpenRow.s2, OpenRow.s3, i64_w, i32_w]; rfl
                          refine pure_ (i := 16) (N := some 88) (v := ?_) (a' := ?_) #[true, true, true, true, false, false, true, true, true, true, false, false, false, true, true, true, true, false, false, false, false] rfl rfl (by kernel_rfl) (fun _ _ _ h => h) (Or.inl ⟨by rfl, ?_⟩) ?_ ?_
                          rotate_left
                          · intro w'; go_simp; with_reducible rfl
                          rotate_left
                          · simp only [Act.put, OpenRow.s1, OpenRow.s2, OpenRow.s3, i64_w, i32_w]; rfl
                          refine take_ (i := 4) (N := some 76) (v := ?_) (a' := ?_) #[true, true, true, true, true, false, true, true, true, true, false, false, false, true, true, true, true, false, false, false, false] rfl rfl (by kernel_rfl) (fun _ _ _ h => h) (Or.inl ⟨by rfl, ?_⟩) hHeld ?_ ?_
                          rotate_left
                          · intro w' s0
                            go_simp
                            with_reducible rfl
                          rotate_left
                          · simp only [Act.put, OpenRow.s1, OpenRow.s2, OpenRow.s3, i64_w, i32_w]; rfl
                          refine take_ (i := 10) (N := some 82) (v := ?_) (a' := ?_) #[true, true, true, true, true, false, true, true, true, true, true, false, false, true, true, true, true, false, false, false, false] rfl rfl (by kernel_rfl) (fun _ _ _ h => h) (Or.inl ⟨by rfl, ?_⟩) hHeld ?_ ?_
                          rotate_left
                          · intro w' s0
                            go_simp
                            with_reducible rfl
                          rotate_left
                          · simp only [Act.put, OpenRow.s1, OpenRow.s2, OpenRow.s3, i64_w, i32_w]; rfl
                          refine take_ (i := 17) (N := some 89) (v := ?_) (a' := ?_) #[true, true, true, true, true, false, true, true, true, true, true, false, false, true, true, true, true, true, false, false, false] rfl rfl (by kernel_rfl) (fun _ _ _ h => h) (Or.inl ⟨by rfl, ?_⟩) hHeld ?_ ?_
                          rotate_left
                          · intro w' s0
                            go_simp
                            with_reducible rfl
                          rotate_left
                          · simp only [Act.put, OpenRow.s1, OpenRow.s2, OpenRow.s3, i64_w, i32_w]; rfl
                          refine pure_ (i := 18) (N := some 90) (v := ?_) (a' := ?_) #[true, true, true, true, true, false, true, true, true, true, true, false, false, true, true, true, true, true, true, false, false] rfl rfl (by kernel_rfl) (fun _ _ _ h => h) (Or.inl ⟨by rfl, ?_⟩) ?_ ?_
                          rotate_left
                          · intro w'
                            go_simp; rw [X5.out]; all_goals with_reducible rfl
                          rotate_left
                          · simp only [Act.put, OpenRow.s1, OpenRow.s2, OpenRow.s3, i64_w, i32_w]; rfl
                          refine one_ (i := 5) (N := some 77) #[true, true, true, true, true, true, true, true, true, true, true, false, false, true, true, true, true, true, true, false, false] rfl rfl (by kernel_rfl) (by decide) (fun K hK => ?_)
                          refine goes_ Try.func28 (by kernel_rfl) rfl #[.int .u64 y, .int .i64 19] (by rfl) rfl rfl (by simp only [List.map_toArray, List.map_cons, List.map_nil] <;> rfl) ?_
                          with_reducible refine (R19.out _).mono ?_
                          rintro e w3 ⟨rfl, hd⟩
                          refine ⟨_, rfl, ?_⟩
                          have V1 := Aside0.mk (Kd.R_below V0.out (drawn_belowB hd))
                          have Z1 := Aside0.mk (below_step Z0.out (drawn_belowB hd))
                          clear hd
                          refine hK.out _ _ (C2.out _ V1.out) (fun hHeld => ?_)
                          clear hK K
                          refine norm_ (a' := ?_) ?_ ?_
                          rotate_left
                          · show Act.put _ (some 77) _ = _
                            simp only [Act.put, OpenRow.s1, OpenRow.s2, OpenRow.s3, i64_w, i32_w]
                            rfl
                          refine one_ (i := 11) (N := some 83) #[true, true, true, true, true, true, true, true, true, true, true, true, false, true, true, true, true, true, true, false, false] rfl rfl (by kernel_rfl) (by decide) (fun K hK => ?_)
                          refine goes_ Try.func28 (by kernel_rfl) rfl #[.int .u64 y, .int .i64 61] (by rfl) rfl rfl (by simp only [List.map_toArray, List.map_cons, List.map_nil] <;> rfl) ?_
                          with_reducible refine (R61.out _).mono ?_
                          rintro e w3 ⟨rfl, hd⟩
                          refine ⟨_, rfl, ?_⟩
                          have V2 := Aside0.mk (Kd.R_below V1.out (drawn_belowB hd))
                          have Z2 := Aside0.mk (below_step Z1.out (drawn_belowB hd))
                          clear hd
                          refine hK.out _ _ (C2.out _ V2.out) (fun hHeld => ?_)
                          clear hK K
                          refine norm_ (a' := ?_) ?_ ?_
                          rotate_left
                          · show Act.put _ (some 83) _ = _
                            simp only [Act.put, OpenRow.s1, OpenRow.s2, OpenRow.s3, i64_w, i32_w]
                            rfl
                          as_aux_lemma =>
                            refine pure_ (i := 12) (N := some 84) (v := ?_) (a' := ?_) #[true, true, true, true, true, true, true, true, true, true, true, true, true, true, true, true, true, true, true, false, false] rfl rfl (by kernel_rfl) (fun _ _ _ h => h) (Or.inl ⟨by rfl, ?_⟩) ?_ ?_
                            rotate_left
                            · intro w'
                              go_simp; rw [X4.out]; all_goals with_reducible rfl
                            rotate_left
                            · simp only [Act.put, OpenRow.s1, OpenRow.s2, OpenRow.s3, i64_w, i32_w]; rfl
                            refine pure_ (i := 19) (N := some 91) (v := ?_) (a' := ?_) #[true, true, true, true, true, true, true, true, true, true, true, true, true, true, true, true, true, true, true, true, false] rfl rfl (by kernel_rfl) (fun _ _ _ h => h) (Or.inl ⟨by rfl, ?_⟩) ?_ ?_
                            rotate_left
                            · intro w'
                              go_simp; rw [X6.out]; all_goals with_reducible rfl
                            rotate_left
                            · simp only [Act.put, OpenRow.s1, OpenRow.s2, OpenRow.s3, i64_w, i32_w]; rfl
                            refine pure_ (i := 20) (N := some 12) (v := ?_) (a' := ?_) #[true, true, true, true, true, true, true, true, true, true, true, true, true, true, true, true, true, true, true, true, true] rfl rfl (by kernel_rfl) (fun _ _ _ h => h) (Or.inl ⟨by rfl, ?_⟩) ?_ ?_
                            rotate_left
                            · intro w'; go_simp; with_reducible rfl
                            rotate_left
                            · simp only [Act.put, OpenRow.s1, OpenRow.s2, OpenRow.s3, i64_w, i32_w]; rfl
                            refine done_ (by kernel_rfl) ?_

                            clear V0 V1 Z0 Z1 v15 v2
                            have hc16 := C16.out _ V2.out
                            have hc7 := C7.out _ V2.out
                            have hfw := frozenR V2.out (by rw [HWL.out]; decide) i
                            have hcw := cellR V2.out HWL.out (i := i) (by have := LI.out; rw [HWL.out] at this; exact this)
                            have PUT := Aside0.mk (fun v => putU V2.out i v)
                            have PB := Aside0.mk (fun v => below_drew (below_set (j := i) (v := .int .u64 v) Z2.out HGW.out))
                            generalize Ws.getD i 0 = wi at hcw
                            clear V2 Z2
                            as_aux_lemma =>
                              (repeat go_step)
                              go_region
                              go_wp2
                              go_roundg (80 - (i + 1))
                              case measure => omega
                              case rel => exact ⟨i + 1, by omega, by omega, by omega, by go_num, by rw [EQ.out]; exact ⟨PUT.out _⟩, ⟨PB.out _⟩⟩
              · obtain rfl : i = 80 := by omega
                as_aux_lemma =>
                  have hneg80 : ¬ ((80 : Nat) : Int) < 80 := by omega
                  clear hlt hg hi hi0
                  rw [show 80 - 16 = 64 from rfl] at RW
                  have HWL := Aside0.mk (wB_length b 64)
                  have EB := Aside0.mk (show blkS K h b = outS h (rdsS K (wB b 64) h 80) 8 from rfl)
                  generalize wB b 64 = Ws at *
                  go_wp2_with (first
                    | ((with_reducible refine gate_dst (N := 110) rfl ?_); refine Kd.R_lit (w0 := w) (Kd.int .u64) w.heap.size 32 rfl (N := 110) rfl (xs := ([] : List Int)) (inner := []) (ok := fun _ => True) (okp := fun _ => True) ?hr ?hp (fun _ hk => hk) trivial B1.out (below_size B1.out) (by simp) ?_; (case hr => first | (go_simp; done) | (go_simp; rfl)); (case hp => exact Kd.reps_scalar _); intro v2 w2 ho hb hg_ hnew_; have RV := Aside0.mk ho; have B2 := Aside0.mk hb; have HG2 := Aside0.mk hg_; have HN2 := Aside0.mk hnew_; clear ho hb hg_ hnew_)
                    | ((with_reducible refine gate_builtin (b := .append) (xs := #[.tmp 110, .tmp 111]) rfl ?_); at_builtin; revert INFO))
                  intro INFO
                  refine Kd.R_append_rows (Kd.int .u64) (w0 := w) w.heap.size rfl (.tmp 110) (.tmp 111) 37 32 (.int .u64 0) 8 rfl Try.underlying37 infoU rfl (by decide) (by decide) v2 [] h _ _ _ (fun _ => True) (fun _ => False) rfl rfl ?aO ?aR (fun _ _ h => h) (fun _ h => h.elim) ?aF ?aB ?aS ?aL ?_
                  (case aR => exact Kd.C_below HH.out B2.out)
                  (case aB => exact B2.out)
                  (case aF => exact (fun _ _ => trivial))
                  (case aO => exact RV.out)
                  (case aS => exact (below_size B2.out))
                  (case aL => first | (simp only [List.length_nil]; done) | (simp only [List.length_nil]; omega))
                  intro v3 w3 ho hb hg_ hat
                  rw [List.nil_append] at ho
                  have RV3 := Aside0.mk ho
                  have B3 := Aside0.mk hb
                  have RW3 := Aside0.mk (Kd.R_grown2 (Kd.R_grown RW.out HG2.out (fun _ _ => by simp)) rfl hg_ (fun k e1 e2 => fresh_ne HN2.out RW.out k e1 e2))
                  clear ho hb hg_ hat
                  as_aux_lemma =>
                    (repeat go_step)
                    obtain ⟨gv, cv, ev, _, _, _⟩ := Kd.R_form RV3.out (by rw [HHL.out]; decide)
                    subst ev
                    rw [HHL.out] at RV3 ⊢
                    clear RW RV B1 B2 HG2 HN2
                    as_aux_lemma =>
                      go_loopg [13, 14, 15, 16, 17, 18, 19] 81 (fun gg v13 v14 _ _ _ _ _ wr => ∃ (i gv cv : Nat), i ≤ 80 ∧ 80 - i ≤ gg ∧ v14 = .int .i64 i ∧ v13 = .slice (some ⟨gv, 0, none⟩) 8 cv ∧ Aside0 (Kd.R (Kd.int .u64) 32 wr w.heap.size (fun _ => True) (.slice (some ⟨gw, 0, none⟩) 80 cw) Ws) ∧ Aside0 (Kd.R (Kd.int .u64) 32 wr w.heap.size (fun _ => True) (.slice (some ⟨gv, 0, none⟩) 8 cv) (rdsS K Ws h i)) ∧ Aside0 (Below w.heap.size w wr))
                      case atStart => exact ⟨0, gv, cv, by omega, by omega, rfl, rfl, RW3, RV3, B3⟩
                      case round =>
                        clear RW3 RV3 B3 
                        obtain ⟨i, gv, cv, hi, hg, rfl, rfl, RW, RV, B1⟩ := hrel
                        by_cases hlt : i < 80
                        · have hlti : (i : Int) < 80 := by omega
                          have HVL := Aside0.mk (rdsS_length K Ws h HHL.out i)
                          have EQ := Aside0.mk (show rdsS K Ws h (i + 1) = rndS K Ws (rdsS K Ws h i) i from rfl)
                          generalize rdsS K Ws h i = vs at *
                          unfold rndS t1F sC sD chF mjF at EQ
                          unfold w6 at EQ
                          obtain ⟨va, hv0⟩ : ∃ x, x = vs.getD 0 0 := ⟨_, rfl⟩
                          obtain ⟨vb, hv1⟩ : ∃ x, x = vs.getD 1 0 := ⟨_, rfl⟩
                          obtain ⟨vc, hv2⟩ : ∃ x, x = vs.getD 2 0 := ⟨_, rfl⟩
                          obtain ⟨vd, hv3⟩ : ∃ x, x = vs.getD 3 0 := ⟨_, rfl⟩
                          obtain ⟨ve, hv4⟩ : ∃ x, x = vs.getD 4 0 := ⟨_, rfl⟩
                          obtain ⟨vf, hv5⟩ : ∃ x, x = vs.getD 5 0 := ⟨_, rfl⟩
                          obtain ⟨vg, hv6⟩ : ∃ x, x = vs.getD 6 0 := ⟨_, rfl⟩
                          obtain ⟨vh7, hv7⟩ : ∃ x, x = vs.getD 7 0 := ⟨_, rfl⟩
                          rw [← hv0, ← hv1, ← hv2, ← hv3, ← hv4, ← hv5, ← hv6, ← hv7] at EQ
                          have CV0 := Aside0.mk (fun W (hW : Kd.R (Kd.int .u64) 32 W w.heap.size (fun _ => True) (.slice (some ⟨gv, 0, none⟩) 8 cv) vs) => (by rw [hv0]; exact cellR hW HVL.out (by decide) : W.cell? ⟨gv, 0, none⟩ = some (.int .u64 va)))
                          have CV1 := Aside0.mk (fun W (hW : Kd.R (Kd.int .u64) 32 W w.heap.size (fun _ => True) (.slice (some ⟨gv, 0, none⟩) 8 cv) vs) => (by rw [hv1]; exact cellR hW HVL.out (by decide) : W.cell? ⟨gv, 1, none⟩ = some (.int .u64 vb)))
                          have CV2 := Aside0.mk (fun W (hW : Kd.R (Kd.int .u64) 32 W w.heap.size (fun _ => True) (.slice (some ⟨gv, 0, none⟩) 8 cv) vs) => (by rw [hv2]; exact cellR hW HVL.out (by decide) : W.cell? ⟨gv, 2, none⟩ = some (.int .u64 vc)))
                          have CV3 := Aside0.mk (fun W (hW : Kd.R (Kd.int .u64) 32 W w.heap.size (fun _ => True) (.slice (some ⟨gv, 0, none⟩) 8 cv) vs) => (by rw [hv3]; exact cellR hW HVL.out (by decide) : W.cell? ⟨gv, 3, none⟩ = some (.int .u64 vd)))
                          have CV4 := Aside0.mk (fun W (hW : Kd.R (Kd.int .u64) 32 W w.heap.size (fun _ => True) (.slice (some ⟨gv, 0, none⟩) 8 cv) vs) => (by rw [hv4]; exact cellR hW HVL.out (by decide) : W.cell? ⟨gv, 4, none⟩ = some (.int .u64 ve)))
                          have CV5 := Aside0.mk (fun W (hW : Kd.R (Kd.int .u64) 32 W w.heap.size (fun _ => True) (.slice (some ⟨gv, 0, none⟩) 8 cv) vs) => (by rw [hv5]; exact cellR hW HVL.out (by decide) : W.cell? ⟨gv, 5, none⟩ = some (.int .u64 vf)))
                          have CV6 := Aside0.mk (fun W (hW : Kd.R (Kd.int .u64) 32 W w.heap.size (fun _ => True) (.slice (some ⟨gv, 0, none⟩) 8 cv) vs) => (by rw [hv6]; exact cellR hW HVL.out (by decide) : W.cell? ⟨gv, 6, none⟩ = some (.int .u64 vg)))
                          have CV7 := Aside0.mk (fun W (hW : Kd.R (Kd.int .u64) 32 W w.heap.size (fun _ => True) (.slice (some ⟨gv, 0, none⟩) 8 cv) vs) => (by rw [hv7]; exact cellR hW HVL.out (by decide) : W.cell? ⟨gv, 7, none⟩ = some (.int .u64 vh7)))
                          clear hv0 hv1 hv2 hv3 hv4 hv5 hv6 hv7
                          obtain ⟨kk, hkk⟩ : ∃ x, x = K.getD i 0 := ⟨_, rfl⟩
                          obtain ⟨ww, hww⟩ : ∃ x, x = Ws.getD i 0 := ⟨_, rfl⟩
                          rw [← hkk, ← hww] at EQ
                          obtain ⟨adK, eK, _⟩ := cellC HK.out i hlt
                          subst eK
                          have CK := Aside0.mk (fun W (hW : Below w.heap.size w W) => (by obtain ⟨ad, e, hc_⟩ := cellC (Kd.C_below HK.out hW) i hlt; cases e; rw [hkk]; exact hc_ : W.cell? (adK.add i) = some (.int .u64 kk)))
                          have CW := Aside0.mk (fun W (hW : Kd.R (Kd.int .u64) 32 W w.heap.size (fun _ => True) (.slice (some ⟨gw, 0, none⟩) 80 cw) Ws) => (by rw [hww]; exact cellR hW HWL.out hlt : W.cell? ⟨gw, i, none⟩ = some (.int .u64 ww)))
                          have CX := Aside0.mk (fun W (hW : Below w.heap.size w W) => ((blk_cell (blk_below GX.out hW) 0).trans rfl : W.cell? ⟨gX, 0, none⟩ = some (.slice (some adK) 80 ck)))
                          clear hkk hww
                          have Q14 := Aside0.mk (fun W => (show Calls Try.prog 28 #[.int .u64 ve, .int .i64 14] W fun e w' => e = .returned (.int .u64 (rr ve 14)) ∧ Drawn0 W w' from turn_calls ve 14 W (by decide) (by decide)))
                          have Q18 := Aside0.mk (fun W => (show Calls Try.prog 28 #[.int .u64 ve, .int .i64 18] W fun e w' => e = .returned (.int .u64 (rr ve 18)) ∧ Drawn0 W w' from turn_calls ve 18 W (by decide) (by decide)))
                          have Q41 := Aside0.mk (fun W => (show Calls Try.prog 28 #[.int .u64 ve, .int .i64 41] W fun e w' => e = .returned (.int .u64 (rr ve 41)) ∧ Drawn0 W w' from turn_calls ve 41 W (by decide) (by decide)))
                          have Q28 := Aside0.mk (fun W => (show Calls Try.prog 28 #[.int .u64 va, .int .i64 28] W fun e w' => e = .returned (.int .u64 (rr va 28)) ∧ Drawn0 W w' from turn_calls va 28 W (by decide) (by decide)))
                          have Q34 := Aside0.mk (fun W => (show Calls Try.prog 28 #[.int .u64 va, .int .i64 34] W fun e w' => e = .returned (.int .u64 (rr va 34)) ∧ Drawn0 W w' from turn_calls va 34 W (by decide) (by decide)))
                          have Q39 := Aside0.mk (fun W => (show Calls Try.prog 28 #[.int .u64 va, .int .i64 39] W fun e w' => e = .returned (.int .u64 (rr va 39)) ∧ Drawn0 W w' from turn_calls va 39 W (by decide) (by decide)))
                          generalize rr ve 14 = r14 at *
                          generalize rr ve 18 = r18 at *
                          generalize rr ve 41 = r41 at *
                          generalize rr va 28 = r28 at *
                          generalize rr va 34 = r34 at *
                          generalize rr va 39 = r39 at *
                          obtain ⟨y1, hx⟩ : ∃ p, bits .xor .u64 r14 r18 = p := ⟨_, rfl⟩
                          rw [hx] at EQ
                          have Y1 := Aside0.mk hx
                          clear hx
                          obtain ⟨s1, hx⟩ : ∃ p, bits .xor .u64 y1 r41 = p := ⟨_, rfl⟩
                          rw [hx] at EQ
                          have Y2 := Aside0.mk hx
                          clear hx
                          obtain ⟨chv, hx⟩ : ∃ p, bits .xor .u64 (bits .and .u64 ve vf) (bits .and .u64 (bits .xor .u64 (if IntKind.u64.signed = true then -1 else IntKind.u64.max) ve) vg) = p := ⟨_, rfl⟩
                          rw [hx] at EQ
                          have Y3 := Aside0.mk hx
                          clear hx
                          obtain ⟨t1, hx⟩ : ∃ p, IntKind.u64.wrap (IntKind.u64.wrap (IntKind.u64.wrap (IntKind.u64.wrap (vh7 + s1) + chv) + kk) + ww) = p := ⟨_, rfl⟩
                          rw [hx] at EQ
                          have Y4 := Aside0.mk hx
                          clear hx
                          obtain ⟨z1, hx⟩ : ∃ p, bits .xor .u64 r28 r34 = p := ⟨_, rfl⟩
                          rw [hx] at EQ
                          have Y5 := Aside0.mk hx
                          clear hx
                          obtain ⟨s0, hx⟩ : ∃ p, bits .xor .u64 z1 r39 = p := ⟨_, rfl⟩
                          rw [hx] at EQ
                          have Y6 := Aside0.mk hx
                          clear hx
                          obtain ⟨m1, hx⟩ : ∃ p, bits .and .u64 va vb = p := ⟨_, rfl⟩
                          rw [hx] at EQ
                          have M1 := Aside0.mk hx
                          clear hx
                          obtain ⟨m2, hx⟩ : ∃ p, bits .and .u64 va vc = p := ⟨_, rfl⟩
                          rw [hx] at EQ
                          have M2 := Aside0.mk hx
                          clear hx
                          obtain ⟨m3, hx⟩ : ∃ p, bits .xor .u64 m1 m2 = p := ⟨_, rfl⟩
                          rw [hx] at EQ
                          have M3 := Aside0.mk hx
                          clear hx
                          obtain ⟨m4, hx⟩ : ∃ p, bits .and .u64 vb vc = p := ⟨_, rfl⟩
                          rw [hx] at EQ
                          have M4 := Aside0.mk hx
                          clear hx
                          obtain ⟨mj, hx⟩ : ∃ p, bits .xor .u64 m3 m4 = p := ⟨_, rfl⟩
                          rw [hx] at EQ
                          have M5 := Aside0.mk hx
                          clear hx
                          obtain ⟨e0, hx⟩ : ∃ p, IntKind.u64.wrap (IntKind.u64.wrap (t1 + s0) + mj) = p := ⟨_, rfl⟩
                          rw [hx] at EQ
                          have Y8 := Aside0.mk hx
                          clear hx
                          obtain ⟨e4, hx⟩ : ∃ p, IntKind.u64.wrap (vd + t1) = p := ⟨_, rfl⟩
                          rw [hx] at EQ
                          have Y9 := Aside0.mk hx
                          clear hx
                          have V0 := Aside0.mk (Kd.R_drew RV.out)
                          have U0 := Aside0.mk (Kd.R_drew RW.out)
                          have Z0 := Aside0.mk (below_drew B1.out)
                          clear RV RW B1
                          as_aux_lemma =>
                            (repeat go_step)
                            refine start_ (n := 15) (S := fun w' => w'.cell? ⟨gv, 4, none⟩ = some (.int .u64 ve)) (ds := []) #[false, false, false, false, false, false, false, false, false, false, false, false, false, false, false] (by kernel_rfl) rfl rfl (CV4.out _ V0.out) (fun hHeld => ?_)
                            refine pure_ (i := 0) (N := some 117) (v := ?_) (a' := ?_) #[true, false, false, false, false, false, false, false, false, false, false, false, false, false, false] rfl rfl (by kernel_rfl) (fun _ _ _ h => h) (Or.inl ⟨by rfl, ?_⟩) ?_ ?_
                            rotate_left
                            · intro w'; go_simp; with_reducible rfl
                            rotate_left
                            · simp only [Act.put, OpenRow.s1, OpenRow.s2, OpenRow.s3, i64_w, i32_w]; rfl
                            refine pure_ (i := 1) (N := some 118) (v := ?_) (a' := ?_) #[true, true, false, false, false, false, false, false, false, false, false, false, false, false, false] rfl rfl (by kernel_rfl) (fun _ _ _ h => h) (Or.inl ⟨by rfl, ?_⟩) ?_ ?_
                            rotate_left
                            · intro w'; go_simp; with_reducible rfl
                            rotate_left
                            · simp only [Act.put, OpenRow.s1, OpenRow.s2, OpenRow.s3, i64_w, i32_w]; rfl
                            refine pure_ (i := 4) (N := some 121) (v := ?_) (a' := ?_) #[true, true, false, false, true, false, false, false, false, false, false, false, false, false, false] rfl rfl (by kernel_rfl) (fun _ _ _ h => h) (Or.inl ⟨by rfl, ?_⟩) ?_ ?_
                            rotate_left
                            · intro w'; go_simp; with_reducible rfl
                            rotate_left
                            · simp only [Act.put, OpenRow.s1, OpenRow.s2, OpenRow.s3, i64_w, i32_w]; rfl
                            refine pure_ (i := 5) (N := some 122) (v := ?_) (a' := ?_) #[true, true, false, false, true, true, false, false, false, false, false, false, false, false, false] rfl rfl (by kernel_rfl) (fun _ _ _ h => h) (Or.inl ⟨by rfl, ?_⟩) ?_ ?_
                            rotate_left
                            · intro w'; go_simp; with_reducible rfl
                            rotate_left
                            · simp only [Act.put, OpenRow.s1, OpenRow.s2, OpenRow.s3, i64_w, i32_w]; rfl
                            refine pure_ (i := 9) (N := some 126) (v := ?_) (a' := ?_) #[true, true, false, false, true, true, false, false, false, true, false, false, false, false, false] rfl rfl (by kernel_rfl) (fun _ _ _ h => h) (Or.inl ⟨by rfl, ?_⟩) ?_ ?_
                            rotate_left
                            · intro w'; go_simp; with_reducible rfl
                            rotate_left
                            · simp only [Act.put, OpenRow.s1, OpenRow.s2, OpenRow.s3, i64_w, i32_w]; rfl
                            as_aux_lemma =>
                              refine pure_ (i := 10) (N := some 127) (v := ?_) (a' := ?_) #[true, true, false, false, true, true, false, false, false, true, true, false, false, false, false] rfl rfl (by kernel_rfl) (fun _ _ _ h => h) (Or.inl ⟨by rfl, ?_⟩) ?_ ?_
                              rotate_left
                              · intro w'; go_simp; with_reducible rfl
                              rotate_left
                              · simp only [Act.put, OpenRow.s1, OpenRow.s2, OpenRow.s3, i64_w, i32_w]; rfl
                              refine take_ (i := 2) (N := some 119) (v := ?_) (a' := ?_) #[true, true, true, false, true, true, false, false, false, true, true, false, false, false, false] rfl rfl (by kernel_rfl) (fun _ _ _ h => h) (Or.inl ⟨by rfl, ?_⟩) hHeld ?_ ?_
                              rotate_left
                              · intro w' s0
                                go_simp
                                with_reducible rfl
                              rotate_left
                              · simp only [Act.put, OpenRow.s1, OpenRow.s2, OpenRow.s3, i64_w, i32_w]; rfl
                              refine take_ (i := 6) (N := some 123) (v := ?_) (a' := ?_) #[true, true, true, false, true, true, true, false, false, true, true, false, false, false, false] rfl rfl (by kernel_rfl) (fun _ _ _ h => h) (Or.inl ⟨by rfl, ?_⟩) hHeld ?_ ?_
                              rotate_left
                              · intro w' s0
                                go_simp
                                with_reducible rfl
                              rotate_left
                              · simp only [Act.put, OpenRow.s1, OpenRow.s2, OpenRow.s3, i64_w, i32_w]; rfl
                              refine take_ (i := 11) (N := some 128) (v := ?_) (a' := ?_) #[true, true, true, false, true, true, true, false, false, true, true, true, false, false, false] rfl rfl (by kernel_rfl) (fun _ _ _ h => h) (Or.inl ⟨by rfl, ?_⟩) hHeld ?_ ?_
                              rotate_left
                              · intro w' s0
                                go_simp
                                with_reducible rfl
                              rotate_left
                              · simp only [Act.put, OpenRow.s1, OpenRow.s2, OpenRow.s3, i64_w, i32_w]; rfl
                              refine one_ (i := 3) (N := some 120) #[true, true, true, true, true, true, true, false, false, true, true, true, false, false, false] rfl rfl (by kernel_rfl) (by decide) (fun K hK => ?_)
                              refine goes_ Try.func28 (by kernel_rfl) rfl #[.int .u64 ve, .int .i64 14] (by rfl) rfl rfl (by simp only [List.map_toArray, List.map_cons, List.map_nil] <;> rfl) ?_
                              with_reducible refine (Q14.out _).mono ?_
                              rintro e w3 ⟨rfl, hd⟩
                              refine ⟨_, rfl, ?_⟩
                              have V1 := Aside0.mk (Kd.R_below V0.out (drawn_belowB hd))
                              have U1 := Aside0.mk (Kd.R_below U0.out (drawn_belowB hd))
                              have Z1 := Aside0.mk (below_step Z0.out (drawn_belowB hd))
                              clear hd
                              refine hK.out _ _ (CV4.out _ V1.out) (fun hHeld => ?_)
                              clear hK K
                              refine norm_ (a' := ?_) ?_ ?_
                              rotate_left
                              · show Act.put _ (some 120) _ = _
                                simp only [Act.put, OpenRow.s1, OpenRow.s2, OpenRow.s3, i64_w, i32_w]
                                rfl
                              refine one_ (i := 7) (N := some 124) #[true, true, true, true, true, true, true, true, false, true, true, true, false, false, false] rfl rfl (by kernel_rfl) (by decide) (fun K hK => ?_)
                              refine goes_ Try.func28 (by kernel_rfl) rfl #[.int .u64 ve, .int .i64 18] (by rfl) rfl rfl (by simp only [List.map_toArray, List.map_cons, List.map_nil] <;> rfl) ?_
                              with_reducible refine (Q18.out _).mono ?_
                              rintro e w3 ⟨rfl, hd⟩
                              refine ⟨_, rfl, ?_⟩
                              have V2 := Aside0.mk (Kd.R_below V1.out (drawn_belowB hd))
                              have U2 := Aside0.mk (Kd.R_below U1.out (drawn_belowB hd))
                              have Z2 := Aside0.mk (below_step Z1.out (drawn_belowB hd))
                              clear hd
                              refine hK.out _ _ (CV4.out _ V2.out) (fun hHeld => ?_)
                              clear hK K
                              refine norm_ (a' := ?_) ?_ ?_
                              rotate_left
                              · show Act.put _ (some 124) _ = _
                                simp only [Act.put, OpenRow.s1, OpenRow.s2, OpenRow.s3, i64_w, i32_w]
                                rfl
                              refine pure_ (i := 8) (N := some 125) (v := ?_) (a' := ?_) #[true, true, true, true, true, true, true, true, true, true, true, true, false, false, false] rfl rfl (by kernel_rfl) (fun _ _ _ h => h) (Or.inl ⟨by rfl, ?_⟩) ?_ ?_
                              rotate_left
                              · intro w'
                                go_simp; rw [Y1.out]; all_goals with_reducible rfl
                              rotate_left
                              · simp only [Act.put, OpenRow.s1, OpenRow.s2, OpenRow.s3, i64_w, i32_w]; rfl
                              refine one_ (i := 12) (N := some 129) #[true, true, true, true, true, true, true, true, true, true, true, true, true, false, false] rfl rfl (by kernel_rfl) (by decide) (fun K hK => ?_)
                              refine goes_ Try.func28 (by kernel_rfl) rfl #[.int .u64 ve, .int .i64 41] (by rfl) rfl rfl (by simp only [List.map_toArray, List.map_cons, List.map_nil] <;> rfl) ?_
                              with_reducible refine (Q41.out _).mono ?_
                              rintro e w3 ⟨rfl, hd⟩
                              refine ⟨_, rfl, ?_⟩
                              have V3 := Aside0.mk (Kd.R_below V2.out (drawn_belowB hd))
                              have U3 := Aside0.mk (Kd.R_below U2.out (drawn_belowB hd))
                              have Z3 := Aside0.mk (below_step Z2.out (drawn_belowB hd))
                              clear hd
                              refine hK.out _ _ (CV4.out _ V3.out) (fun hHeld => ?_)
                              clear hK K
                              refine norm_ (a' := ?_) ?_ ?_
                              rotate_left
                              · show Act.put _ (some 129) _ = _
                                simp only [Act.put, OpenRow.s1, OpenRow.s2, OpenRow.s3, i64_w, i32_w]
                                rfl
                              as_aux_lemma =>
                                refine pure_ (i := 13) (N := some 130) (v := ?_) (a' := ?_) #[true, true, true, true, true, true, true, true, true, true, true, true, true, true, false] rfl rfl (by kernel_rfl) (fun _ _ _ h => h) (Or.inl ⟨by rfl, ?_⟩) ?_ ?_
                                rotate_left
                                · intro w'
                                  go_simp; rw [Y2.out]; all_goals with_reducible rfl
                                rotate_left
                                · simp only [Act.put, OpenRow.s1, OpenRow.s2, OpenRow.s3, i64_w, i32_w]; rfl
                                refine pure_ (i := 14) (N := some 15) (v := ?_) (a' := ?_) #[true, true, true, true, true, true, true, true, true, true, true, true, true, true, true] rfl rfl (by kernel_rfl) (fun _ _ _ h => h) (Or.inl ⟨by rfl, ?_⟩) ?_ ?_
                                rotate_left
                                · intro w'; go_simp; with_reducible rfl
                                rotate_left
                                · simp only [Act.put, OpenRow.s1, OpenRow.s2, OpenRow.s3, i64_w, i32_w]; rfl
                                refine done_ (by kernel_rfl) ?_
                                clear V0 V1 V2 U0 U1 U2 Z0 Z1 Z2
                                as_aux_lemma =>
                                  (repeat go_step)
                                  have hc4 := CV4.out _ V3.out
                                  have hc5 := CV5.out _ V3.out
                                  have hc6 := CV6.out _ V3.out
                                  as_aux_lemma =>
                                    (repeat go_step)
                                    go_region
                                    clear hc4 hc5 hc6
                                    have V4 := Aside0.mk (Kd.R_drew V3.out)
                                    have U4 := Aside0.mk (Kd.R_drew U3.out)
                                    have Z4 := Aside0.mk (below_drew Z3.out)
                                    clear V3 U3 Z3
                                    as_aux_lemma =>
                                      (repeat go_step)
                                      rw [Y3.out]
                                      have hc7 := CV7.out _ V4.out
                                      have hck := CK.out _ Z4.out
                                      have hcw := CW.out _ U4.out
                                      have hcx := CX.out _ Z4.out
                                      as_aux_lemma =>
                                        (repeat go_step)
                                        go_region
                                        clear hc7
                                        have V5 := Aside0.mk (Kd.R_drew V4.out)
                                        have U5 := Aside0.mk (Kd.R_drew U4.out)
                                        have Z5 := Aside0.mk (below_drew Z4.out)
                                        clear V4 U4 Z4
                                        as_aux_lemma =>
                                          (repeat go_step)
                                          rw [Y4.out]
                                          clear hck hcw hcx

                                          have V0 := Aside0.mk (Kd.R_drew V5.out)
                                          have U0 := Aside0.mk (Kd.R_drew U5.out)
                                          have Z0 := Aside0.mk (below_drew Z5.out)
                                          clear V5 U5 Z5
                                          refine start_ (n := 15) (S := fun w' => w'.cell? ⟨gv, 0, none⟩ = some (.int .u64 va)) (ds := []) #[false, false, false, false, false, false, false, false, false, false, false, false, false, false, false] (by kernel_rfl) rfl rfl (CV0.out _ V0.out) (fun hHeld => ?_)
                                          refine pure_ (i := 0) (N := some 167) (v := ?_) (a' := ?_) #[true, false, false, false, false, false, false, false, false, false, false, false, false, false, false] rfl rfl (by kernel_rfl) (fun _ _ _ h => h) (Or.inl ⟨by rfl, ?_⟩) ?_ ?_
                                          rotate_left
                                          · intro w'; go_simp; with_reducible rfl
                                          rotate_left
                                          · simp only [Act.put, OpenRow.s1, OpenRow.s2, OpenRow.s3, i64_w, i32_w]; rfl
                                          refine pure_ (i := 1) (N := some 168) (v := ?_) (a' := ?_) #[true, true, false, false, false, false, false, false, false, false, false, false, false, false, false] rfl rfl (by kernel_rfl) (fun _ _ _ h => h) (Or.inl ⟨by rfl, ?_⟩) ?_ ?_
                                          rotate_left
                                          · intro w'; go_simp; with_reducible rfl
                                          rotate_left
                                          · simp only [Act.put, OpenRow.s1, OpenRow.s2, OpenRow.s3, i64_w, i32_w]; rfl
                                          refine pure_ (i := 4) (N := some 171) (v := ?_) (a' := ?_) #[true, true, false, false, true, false, false, false, false, false, false, false, false, false, false] rfl rfl (by kernel_rfl) (fun _ _ _ h => h) (Or.inl ⟨by rfl, ?_⟩) ?_ ?_
                                          rotate_left
                                          · intro w'; go_simp; with_reducible rfl
                                          rotate_left
                                          · simp only [Act.put, OpenRow.s1, OpenRow.s2, OpenRow.s3, i64_w, i32_w]; rfl
                                          refine pure_ (i := 5) (N := some 172) (v := ?_) (a' := ?_) #[true, true, false, false, true, true, false, false, false, false, false, false, false, false, false] rfl rfl (by kernel_rfl) (fun _ _ _ h => h) (Or.inl ⟨by rfl, ?_⟩) ?_ ?_
                                          rotate_left
                                          · intro w'; go_simp; with_reducible rfl
                                          rotate_left
                                          · simp only [Act.put, OpenRow.s1, OpenRow.s2, OpenRow.s3, i64_w, i32_w]; rfl
                                          refine pure_ (i := 9) (N := some 176) (v := ?_) (a' := ?_) #[true, true, false, false, true, true, false, false, false, true, false, false, false, false, false] rfl rfl (by kernel_rfl) (fun _ _ _ h => h) (Or.inl ⟨by rfl, ?_⟩) ?_ ?_
                                          rotate_left
                                          · intro w'; go_simp; with_reducible rfl
                                          rotate_left
                                          · simp only [Act.put, OpenRow.s1, OpenRow.s2, OpenRow.s3, i64_w, i32_w]; rfl
                                          refine pure_ (i := 10) (N := some 177) (v := ?_) (a' := ?_) #[true, true, false, false, true, true, false, false, false, true, true, false, false, false, false] rfl rfl (by kernel_rfl) (fun _ _ _ h => h) (Or.inl ⟨by rfl, ?_⟩) ?_ ?_
                                          rotate_left
                                          · intro w'; go_simp; with_reducible rfl
                                          rotate_left
                                          · simp only [Act.put, OpenRow.s1, OpenRow.s2, OpenRow.s3, i64_w, i32_w]; rfl
                                          as_aux_lemma =>
                                            refine take_ (i := 2) (N := some 169) (v := ?_) (a' := ?_) #[true, true, true, false, true, true, false, false, false, true, true, false, false, false, false] rfl rfl (by kernel_rfl) (fun _ _ _ h => h) (Or.inl ⟨by rfl, ?_⟩) hHeld ?_ ?_
                                            rotate_left
                                            · intro w' s0
                                              go_simp
                                              with_reducible rfl
                                            rotate_left
                                            · simp only [Act.put, OpenRow.s1, OpenRow.s2, OpenRow.s3, i64_w, i32_w]; rfl
                                            refine take_ (i := 6) (N := some 173) (v := ?_) (a' := ?_) #[true, true, true, false, true, true, true, false, false, true, true, false, false, false, false] rfl rfl (by kernel_rfl) (fun _ _ _ h => h) (Or.inl ⟨by rfl, ?_⟩) hHeld ?_ ?_
                                            rotate_left
                                            · intro w' s0
                                              go_simp
                                              with_reducible rfl
                                            rotate_left
                                            · simp only [Act.put, OpenRow.s1, OpenRow.s2, OpenRow.s3, i64_w, i32_w]; rfl
                                            refine take_ (i := 11) (N := some 178) (v := ?_) (a' := ?_) #[true, true, true, false, true, true, true, false, false, true, true, true, false, false, false] rfl rfl (by kernel_rfl) (fun _ _ _ h => h) (Or.inl ⟨by rfl, ?_⟩) hHeld ?_ ?_
                                            rotate_left
                                            · intro w' s0
                                              go_simp
                                              with_reducible rfl
                                            rotate_left
                                            · simp only [Act.put, OpenRow.s1, OpenRow.s2, OpenRow.s3, i64_w, i32_w]; rfl
                                            refine one_ (i := 3) (N := some 170) #[true, true, true, true, true, true, true, false, false, true, true, true, false, false, false] rfl rfl (by kernel_rfl) (by decide) (fun K hK => ?_)
                                            refine goes_ Try.func28 (by kernel_rfl) rfl #[.int .u64 va, .int .i64 28] (by rfl) rfl rfl (by simp only [List.map_toArray, List.map_cons, List.map_nil] <;> rfl) ?_
                                            with_reducible refine (Q28.out _).mono ?_
                                            rintro e w3 ⟨rfl, hd⟩
                                            refine ⟨_, rfl, ?_⟩
                                            have V1 := Aside0.mk (Kd.R_below V0.out (drawn_belowB hd))
                                            have U1 := Aside0.mk (Kd.R_below U0.out (drawn_belowB hd))
                                            have Z1 := Aside0.mk (below_step Z0.out (drawn_belowB hd))
                                            clear hd
                                            refine hK.out _ _ (CV0.out _ V1.out) (fun hHeld => ?_)
                                            clear hK K
                                            refine norm_ (a' := ?_) ?_ ?_
                                            rotate_left
                                            · show Act.put _ (some 170) _ = _
                                              simp only [Act.put, OpenRow.s1, OpenRow.s2, OpenRow.s3, i64_w, i32_w]
                                              rfl
                                            refine one_ (i := 7) (N := some 174) #[true, true, true, true, true, true, true, true, false, true, true, true, false, false, false] rfl rfl (by kernel_rfl) (by decide) (fun K hK => ?_)
                                            refine goes_ Try.func28 (by kernel_rfl) rfl #[.int .u64 va, .int .i64 34] (by rfl) rfl rfl (by simp only [List.map_toArray, List.map_cons, List.map_nil] <;> rfl) ?_
                                            with_reducible refine (Q34.out _).mono ?_
                                            rintro e w3 ⟨rfl, hd⟩
                                            refine ⟨_, rfl, ?_⟩
                                            have V2 := Aside0.mk (Kd.R_below V1.out (drawn_belowB hd))
                                            have U2 := Aside0.mk (Kd.R_below U1.out (drawn_belowB hd))
                                            have Z2 := Aside0.mk (below_step Z1.out (drawn_belowB hd))
                                            clear hd
                                            refine hK.out _ _ (CV0.out _ V2.out) (fun hHeld => ?_)
                                            clear hK K
                                            refine norm_ (a' := ?_) ?_ ?_
                                            rotate_left
                                            · show Act.put _ (some 174) _ = _
                                              simp only [Act.put, OpenRow.s1, OpenRow.s2, OpenRow.s3, i64_w, i32_w]
                                              rfl
                                            refine pure_ (i := 8) (N := some 175) (v := ?_) (a' := ?_) #[true, true, true, true, true, true, true, true, true, true, true, true, false, false, false] rfl rfl (by kernel_rfl) (fun _ _ _ h => h) (Or.inl ⟨by rfl, ?_⟩) ?_ ?_
                                            rotate_left
                                            · intro w'
                                              go_simp; rw [Y5.out]; all_goals with_reducible rfl
                                            rotate_left
                                            · simp only [Act.put, OpenRow.s1, OpenRow.s2, OpenRow.s3, i64_w, i32_w]; rfl
                                            refine one_ (i := 12) (N := some 179) #[true, true, true, true, true, true, true, true, true, true, true, true, true, false, false] rfl rfl (by kernel_rfl) (by decide) (fun K hK => ?_)
                                            refine goes_ Try.func28 (by kernel_rfl) rfl #[.int .u64 va, .int .i64 39] (by rfl) rfl rfl (by simp only [List.map_toArray, List.map_cons, List.map_nil] <;> rfl) ?_
                                            with_reducible refine (Q39.out _).mono ?_
                                            rintro e w3 ⟨rfl, hd⟩
                                            refine ⟨_, rfl, ?_⟩
                                            have V3 := Aside0.mk (Kd.R_below V2.out (drawn_belowB hd))
                                            have U3 := Aside0.mk (Kd.R_below U2.out (drawn_belowB hd))
                                            have Z3 := Aside0.mk (below_step Z2.out (drawn_belowB hd))
                                            clear hd
                                            refine hK.out _ _ (CV0.out _ V3.out) (fun hHeld => ?_)
                                            clear hK K
                                            refine norm_ (a' := ?_) ?_ ?_
                                            rotate_left
                                            · show Act.put _ (some 179) _ = _
                                              simp only [Act.put, OpenRow.s1, OpenRow.s2, OpenRow.s3, i64_w, i32_w]
                                              rfl
                                            refine pure_ (i := 13) (N := some 180) (v := ?_) (a' := ?_) #[true, true, true, true, true, true, true, true, true, true, true, true, true, true, false] rfl rfl (by kernel_rfl) (fun _ _ _ h => h) (Or.inl ⟨by rfl, ?_⟩) ?_ ?_
                                            rotate_left
                                            · intro w'
                                              go_simp; rw [Y6.out]; all_goals with_reducible rfl
                                            rotate_left
                                            · simp only [Act.put, OpenRow.s1, OpenRow.s2, OpenRow.s3, i64_w, i32_w]; rfl
                                            as_aux_lemma =>
                                              refine pure_ (i := 14) (N := some 18) (v := ?_) (a' := ?_) #[true, true, true, true, true, true, true, true, true, true, true, true, true, true, true] rfl rfl (by kernel_rfl) (fun _ _ _ h => h) (Or.inl ⟨by rfl, ?_⟩) ?_ ?_
                                              rotate_left
                                              · intro w'; go_simp; with_reducible rfl
                                              rotate_left
                                              · simp only [Act.put, OpenRow.s1, OpenRow.s2, OpenRow.s3, i64_w, i32_w]; rfl
                                              refine done_ (by kernel_rfl) ?_
                                              clear V0 V1 V2 U0 U1 U2 Z0 Z1 Z2
                                              as_aux_lemma =>
                                                (repeat go_step)
                                                have V0 := Aside0.mk (Kd.R_drew V3.out)
                                                have U0 := Aside0.mk (Kd.R_drew U3.out)
                                                have Z0 := Aside0.mk (below_drew Z3.out)
                                                clear V3 U3 Z3
                                                refine start_ (n := 24) (S := fun w' => w'.cell? ⟨gv, 0, none⟩ = some (.int .u64 va) ∧ w'.cell? ⟨gv, 1, none⟩ = some (.int .u64 vb) ∧ w'.cell? ⟨gv, 2, none⟩ = some (.int .u64 vc)) (ds := []) #[false, false, false, false, false, false, false, false, false, false, false, false, false, false, false, false, false, false, false, false, false, false, false, false] (by kernel_rfl) rfl rfl ⟨CV0.out _ V0.out, CV1.out _ V0.out, CV2.out _ V0.out⟩ (fun hHeld => ?_)
                                                refine pure_ (i := 0) (N := some 181) (v := ?_) (a' := ?_) #[true, false, false, false, false, false, false, false, false, false, false, false, false, false, false, false, false, false, false, false, false, false, false, false] rfl rfl (by kernel_rfl) (fun _ _ _ h => h) (Or.inl ⟨by rfl, ?_⟩) ?_ ?_
                                                rotate_left
                                                · intro w'; go_simp; with_reducible rfl
                                                rotate_left
                                                · simp only [Act.put, OpenRow.s1, OpenRow.s2, OpenRow.s3, i64_w, i32_w]; rfl
                                                refine pure_ (i := 1) (N := some 182) (v := ?_) (a' := ?_) #[true, true, false, false, false, false, false, false, false, false, false, false, false, false, false, false, false, false, false, false, false, false, false, false] rfl rfl (by kernel_rfl) (fun _ _ _ h => h) (Or.inl ⟨by rfl, ?_⟩) ?_ ?_
                                                rotate_left
                                                · intro w'; go_simp; with_reducible rfl
                                                rotate_left
                                                · simp only [Act.put, OpenRow.s1, OpenRow.s2, OpenRow.s3, i64_w, i32_w]; rfl
                                                refine pure_ (i := 3) (N := some 184) (v := ?_) (a' := ?_) #[true, true, false, true, false, false, false, false, false, false, false, false, false, false, false, false, false, false, false, false, false, false, false, false] rfl rfl (by kernel_rfl) (fun _ _ _ h => h) (Or.inl ⟨by rfl, ?_⟩) ?_ ?_
                                                rotate_left
                                                · intro w'; go_simp; with_reducible rfl
                                                rotate_left
                                                · simp only [Act.put, OpenRow.s1, OpenRow.s2, OpenRow.s3, i64_w, i32_w]; rfl
                                                refine pure_ (i := 4) (N := some 185) (v := ?_) (a' := ?_) #[true, true, false, true, true, false, false, false, false, false, false, false, false, false, false, false, false, false, false, false, false, false, false, false] rfl rfl (by kernel_rfl) (fun _ _ _ h => h) (Or.inl ⟨by rfl, ?_⟩) ?_ ?_
                                                rotate_left
                                                · intro w'; go_simp; with_reducible rfl
                                                rotate_left
                                                · simp only [Act.put, OpenRow.s1, OpenRow.s2, OpenRow.s3, i64_w, i32_w]; rfl
                                                refine pure_ (i := 7) (N := some 188) (v := ?_) (a' := ?_) #[true, true, false, true, true, false, false, true, false, false, false, false, false, false, false, false, false, false, false, false, false, false, false, false] rfl rfl (by kernel_rfl) (fun _ _ _ h => h) (Or.inl ⟨by rfl, ?_⟩) ?_ ?_
                                                rotate_left
                                                · intro w'; go_simp; with_reducible rfl
                                                rotate_left
                                                · simp only [Act.put, OpenRow.s1, OpenRow.s2, OpenRow.s3, i64_w, i32_w]; rfl
                                                refine pure_ (i := 8) (N := some 189) (v := ?_) (a' := ?_) #[true, true, false, true, true, false, false, true, true, false, false, false, false, false, false, false, false, false, false, false, false, false, false, false] rfl rfl (by kernel_rfl) (fun _ _ _ h => h) (Or.inl ⟨by rfl, ?_⟩) ?_ ?_
                                                rotate_left
                                                · intro w'; go_simp; with_reducible rfl
                                                rotate_left
                                                · simp only [Act.put, OpenRow.s1, OpenRow.s2, OpenRow.s3, i64_w, i32_w]; rfl
                                                refine pure_ (i := 10) (N := some 191) (v := ?_) (a' := ?_) #[true, true, false, true, true, false, false, true, true, false, true, false, false, false, false, false, false, false, false, false, false, false, false, false] rfl rfl (by kernel_rfl) (fun _ _ _ h => h) (Or.inl ⟨by rfl, ?_⟩) ?_ ?_
                                                rotate_left
                                                · intro w'; go_simp; with_reducible rfl
                                                rotate_left
                                                · simp only [Act.put, OpenRow.s1, OpenRow.s2, OpenRow.s3, i64_w, i32_w]; rfl
                                                as_aux_lemma =>
                                                  refine pure_ (i := 11) (N := some 192) (v := ?_) (a' := ?_) #[true, true, false, true, true, false, false, true, true, false, true, true, false, false, false, false, false, false, false, false, false, false, false, false] rfl rfl (by kernel_rfl) (fun _ _ _ h => h) (Or.inl ⟨by rfl, ?_⟩) ?_ ?_
                                                  rotate_left
                                                  · intro w'; go_simp; with_reducible rfl
                                                  rotate_left
                                                  · simp only [Act.put, OpenRow.s1, OpenRow.s2, OpenRow.s3, i64_w, i32_w]; rfl
                                                  refine pure_ (i := 15) (N := some 196) (v := ?_) (a' := ?_) #[true, true, false, true, true, false, false, true, true, false, true, true, false, false, false, true, false, false, false, false, false, false, false, false] rfl rfl (by kernel_rfl) (fun _ _ _ h => h) (Or.inl ⟨by rfl, ?_⟩) ?_ ?_
                                                  rotate_left
                                                  · intro w'; go_simp; with_reducible rfl
                                                  rotate_left
                                                  · simp only [Act.put, OpenRow.s1, OpenRow.s2, OpenRow.s3, i64_w, i32_w]; rfl
                                                  refine pure_ (i := 16) (N := some 197) (v := ?_) (a' := ?_) #[true, true, false, true, true, false, false, true, true, false, true, true, false, false, false, true, true, false, false, false, false, false, false, false] rfl rfl (by kernel_rfl) (fun _ _ _ h => h) (Or.inl ⟨by rfl, ?_⟩) ?_ ?_
                                                  rotate_left
                                                  · intro w'; go_simp; with_reducible rfl
                                                  rotate_left
                                                  · simp only [Act.put, OpenRow.s1, OpenRow.s2, OpenRow.s3, i64_w, i32_w]; rfl
                                                  refine pure_ (i := 18) (N := some 199) (v := ?_) (a' := ?_) #[true, true, false, true, true, false, false, true, true, false, true, true, false, false, false, true, true, false, true, false, false, false, false, false] rfl rfl (by kernel_rfl) (fun _ _ _ h => h) (Or.inl ⟨by rfl, ?_⟩) ?_ ?_
                                                  rotate_left
                                                  · intro w'; go_simp; with_reducible rfl
                                                  rotate_left
                                                  · simp only [Act.put, OpenRow.s1, OpenRow.s2, OpenRow.s3, i64_w, i32_w]; rfl
                                                  refine pure_ (i := 19) (N := some 200) (v := ?_) (a' := ?_) #[true, true, false, true, true, false, false, true, true, false, true, true, false, false, false, true, true, false, true, true, false, false, false, false] rfl rfl (by kernel_rfl) (fun _ _ _ h => h) (Or.inl ⟨by rfl, ?_⟩) ?_ ?_
                                                  rotate_left
                                                  · intro w'; go_simp; with_reducible rfl
                                                  rotate_left
                                                  · simp only [Act.put, OpenRow.s1, OpenRow.s2, OpenRow.s3, i64_w, i32_w]; rfl
                                                  refine take_ (i := 2) (N := some 183) (v := ?_) (a' := ?_) #[true, true, true, true, true, false, false, true, true, false, true, true, false, false, false, true, true, false, true, true, false, false, false, false] rfl rfl (by kernel_rfl) (fun _ _ _ h => h) (Or.inl ⟨by rfl, ?_⟩) hHeld ?_ ?_
                                                  rotate_left
                                                  · rintro w' ⟨s0, s1, s2⟩
                                                    go_simp
                                                    with_reducible rfl
                                                  rotate_left
                                                  · simp only [Act.put, OpenRow.s1, OpenRow.s2, OpenRow.s3, i64_w, i32_w]; rfl
                                                  refine take_ (i := 5) (N := some 186) (v := ?_) (a' := ?_) #[true, true, true, true, true, true, false, true, true, false, true, true, false, false, false, true, true, false, true, true, false, false, false, false] rfl rfl (by kernel_rfl) (fun _ _ _ h => h) (Or.inl ⟨by rfl, ?_⟩) hHeld ?_ ?_
                                                  rotate_left
                                                  · rintro w' ⟨s0, s1, s2⟩
                                                    go_simp
                                                    with_reducible rfl
                                                  rotate_left
                                                  · simp only [Act.put, OpenRow.s1, OpenRow.s2, OpenRow.s3, i64_w, i32_w]; rfl
                                                  refine pure_ (i := 6) (N := some 187) (v := ?_) (a' := ?_) #[true, true, true, true, true, true, true, true, true, false, true, true, false, false, false, true, true, false, true, true, false, false, false, false] rfl rfl (by kernel_rfl) (fun _ _ _ h => h) (Or.inl ⟨by rfl, ?_⟩) ?_ ?_
                                                  rotate_left
                                                  · intro w'
                                                    go_simp; rw [M1.out]; all_goals with_reducible rfl
                                                  rotate_left
                                                  · simp only [Act.put, OpenRow.s1, OpenRow.s2, OpenRow.s3, i64_w, i32_w]; rfl
                                                  as_aux_lemma =>
                                                    refine take_ (i := 9) (N := some 190) (v := ?_) (a' := ?_) #[true, true, true, true, true, true, true, true, true, true, true, true, false, false, false, true, true, false, true, true, false, false, false, false] rfl rfl (by kernel_rfl) (fun _ _ _ h => h) (Or.inl ⟨by rfl, ?_⟩) hHeld ?_ ?_
                                                    rotate_left
                                                    · rintro w' ⟨s0, s1, s2⟩
                                                      go_simp
                                                      with_reducible rfl
                                                    rotate_left
                                                    · simp only [Act.put, OpenRow.s1, OpenRow.s2, OpenRow.s3, i64_w, i32_w]; rfl
                                                    refine take_ (i := 12) (N := some 193) (v := ?_) (a' := ?_) #[true, true, true, true, true, true, true, true, true, true, true, true, true, false, false, true, true, false, true, true, false, false, false, false] rfl rfl (by kernel_rfl) (fun _ _ _ h => h) (Or.inl ⟨by rfl, ?_⟩) hHeld ?_ ?_
                                                    rotate_left
                                                    · rintro w' ⟨s0, s1, s2⟩
                                                      go_simp
                                                      with_reducible rfl
                                                    rotate_left
                                                    · simp only [Act.put, OpenRow.s1, OpenRow.s2, OpenRow.s3, i64_w, i32_w]; rfl
                                                    refine pure_ (i := 13) (N := some 194) (v := ?_) (a' := ?_) #[true, true, true, true, true, true, true, true, true, true, true, true, true, true, false, true, true, false, true, true, false, false, false, false] rfl rfl (by kernel_rfl) (fun _ _ _ h => h) (Or.inl ⟨by rfl, ?_⟩) ?_ ?_
                                                    rotate_left
                                                    · intro w'
                                                      go_simp; rw [M2.out]; all_goals with_reducible rfl
                                                    rotate_left
                                                    · simp only [Act.put, OpenRow.s1, OpenRow.s2, OpenRow.s3, i64_w, i32_w]; rfl
                                                    refine pure_ (i := 14) (N := some 195) (v := ?_) (a' := ?_) #[true, true, true, true, true, true, true, true, true, true, true, true, true, true, true, true, true, false, true, true, false, false, false, false] rfl rfl (by kernel_rfl) (fun _ _ _ h => h) (Or.inl ⟨by rfl, ?_⟩) ?_ ?_
                                                    rotate_left
                                                    · intro w'
                                                      go_simp; rw [M3.out]; all_goals with_reducible rfl
                                                    rotate_left
                                                    · simp only [Act.put, OpenRow.s1, OpenRow.s2, OpenRow.s3, i64_w, i32_w]; rfl
                                                    refine take_ (i := 17) (N := some 198) (v := ?_) (a' := ?_) #[true, true, true, true, true, true, true, true, true, true, true, true, true, true, true, true, true, true, true, true, false, false, false, false] rfl rfl (by kernel_rfl) (fun _ _ _ h => h) (Or.inl ⟨by rfl, ?_⟩) hHeld ?_ ?_
                                                    rotate_left
                                                    · rintro w' ⟨s0, s1, s2⟩
                                                      go_simp
                                                      with_reducible rfl
                                                    rotate_left
                                                    · simp only [Act.put, OpenRow.s1, OpenRow.s2, OpenRow.s3, i64_w, i32_w]; rfl
                                                    refine take_ (i := 20) (N := some 201) (v := ?_) (a' := ?_) #[true, true, true, true, true, true, true, true, true, true, true, true, true, true, true, true, true, true, true, true, true, false, false, false] rfl rfl (by kernel_rfl) (fun _ _ _ h => h) (Or.inl ⟨by rfl, ?_⟩) hHeld ?_ ?_
                                                    rotate_left
                                                    · rintro w' ⟨s0, s1, s2⟩
                                                      go_simp
                                                      with_reducible rfl
                                                    rotate_left
                                                    · simp only [Act.put, OpenRow.s1, OpenRow.s2, OpenRow.s3, i64_w, i32_w]; rfl
                                                    refine pure_ (i := 21) (N := some 202) (v := ?_) (a' := ?_) #[true, true, true, true, true, true, true, true, true, true, true, true, true, true, true, true, true, true, true, true, true, true, false, false] rfl rfl (by kernel_rfl) (fun _ _ _ h => h) (Or.inl ⟨by rfl, ?_⟩) ?_ ?_
                                                    rotate_left
                                                    · intro w'
                                                      go_simp; rw [M4.out]; all_goals with_reducible rfl
                                                    rotate_left
                                                    · simp only [Act.put, OpenRow.s1, OpenRow.s2, OpenRow.s3, i64_w, i32_w]; rfl
                                                    refine pure_ (i := 22) (N := some 203) (v := ?_) (a' := ?_) #[true, true, true, true, true, true, true, true, true, true, true, true, true, true, true, true, true, true, true, true, true, true, true, false] rfl rfl (by kernel_rfl) (fun _ _ _ h => h) (Or.inl ⟨by rfl, ?_⟩) ?_ ?_
                                                    rotate_left
                                                    · intro w'
                                                      go_simp; rw [M5.out]; all_goals with_reducible rfl
                                                    rotate_left
                                                    · simp only [Act.put, OpenRow.s1, OpenRow.s2, OpenRow.s3, i64_w, i32_w]; rfl
                                                    as_aux_lemma =>
                                                      refine pure_ (i := 23) (N := some 19) (v := ?_) (a' := ?_) #[true, true, true, true, true, true, true, true, true, true, true, true, true, true, true, true, true, true, true, true, true, true, true, true] rfl rfl (by kernel_rfl) (fun _ _ _ h => h) (Or.inl ⟨by rfl, ?_⟩) ?_ ?_
                                                      rotate_left
                                                      · intro w'; go_simp; with_reducible rfl
                                                      rotate_left
                                                      · simp only [Act.put, OpenRow.s1, OpenRow.s2, OpenRow.s3, i64_w, i32_w]; rfl
                                                      refine done_ (by kernel_rfl) ?_

                                                      as_aux_lemma =>
                                                        (repeat go_step)
                                                        have V4 := Aside0.mk (Kd.R_drew V0.out)
                                                        have U4 := Aside0.mk (Kd.R_drew U0.out)
                                                        have Z4 := Aside0.mk (below_drew Z0.out)
                                                        clear V0 U0 Z0
                                                        have V0 := V4
                                                        have U0 := U4
                                                        have Z0 := Z4
                                                        clear V4 U4 Z4
                                                        refine start_ (n := 30) (S := fun w' => w'.cell? ⟨gv, 0, none⟩ = some (.int .u64 va) ∧ w'.cell? ⟨gv, 1, none⟩ = some (.int .u64 vb) ∧ w'.cell? ⟨gv, 2, none⟩ = some (.int .u64 vc) ∧ w'.cell? ⟨gv, 3, none⟩ = some (.int .u64 vd) ∧ w'.cell? ⟨gv, 4, none⟩ = some (.int .u64 ve) ∧ w'.cell? ⟨gv, 5, none⟩ = some (.int .u64 vf) ∧ w'.cell? ⟨gv, 6, none⟩ = some (.int .u64 vg)) (ds := [28]) #[false, false, false, false, false, false, false, false, false, false, false, false, false, false, false, false, false, false, false, false, false, false, false, false, false, false, false, false, false, false] (by kernel_rfl) rfl rfl ⟨CV0.out _ V0.out, CV1.out _ V0.out, CV2.out _ V0.out, CV3.out _ V0.out, CV4.out _ V0.out, CV5.out _ V0.out, CV6.out _ V0.out⟩ (fun hHeld => ?_)
                                                        refine pure_ (i := 0) (N := some 204) (v := ?_) (a' := ?_) #[true, false, false, false, false, false, false, false, false, false, false, false, false, false, false, false, false, false, false, false, false, false, false, false, false, false, false, false, false, false] rfl rfl (by kernel_rfl) (fun _ _ _ h => h) (Or.inl ⟨by rfl, ?_⟩) ?_ ?_
                                                        rotate_left
                                                        · intro w'; go_simp; with_reducible rfl
                                                        rotate_left
                                                        · simp only [Act.put, OpenRow.s1, OpenRow.s2, OpenRow.s3, i64_w, i32_w]; rfl
                                                        refine pure_ (i := 1) (N := some 205) (v := ?_) (a' := ?_) #[true, true, false, false, false, false, false, false, false, false, false, false, false, false, false, false, false, false, false, false, false, false, false, false, false, false, false, false, false, false] rfl rfl (by kernel_rfl) (fun _ _ _ h => h) (Or.inl ⟨by rfl, ?_⟩) ?_ ?_
                                                        rotate_left
                                                        · intro w'; go_simp; with_reducible rfl
                                                        rotate_left
                                                        · simp only [Act.put, OpenRow.s1, OpenRow.s2, OpenRow.s3, i64_w, i32_w]; rfl
                                                        refine pure_ (i := 2) (N := some 206) (v := ?_) (a' := ?_) #[true, true, true, false, false, false, false, false, false, false, false, false, false, false, false, false, false, false, false, false, false, false, false, false, false, false, false, false, false, false] rfl rfl (by kernel_rfl) (fun _ _ _ h => h) (Or.inl ⟨by rfl, ?_⟩) ?_ ?_
                                                        rotate_left
                                                        · intro w'; go_simp; with_reducible rfl
                                                        rotate_left
                                                        · simp only [Act.put, OpenRow.s1, OpenRow.s2, OpenRow.s3, i64_w, i32_w]; rfl
                                                        refine pure_ (i := 3) (N := some 207) (v := ?_) (a' := ?_) #[true, true, true, true, false, false, false, false, false, false, false, false, false, false, false, false, false, false, false, false, false, false, false, false, false, false, false, false, false, false] rfl rfl (by kernel_rfl) (fun _ _ _ h => h) (Or.inl ⟨by rfl, ?_⟩) ?_ ?_
                                                        rotate_left
                                                        · intro w'; go_simp; with_reducible rfl
                                                        rotate_left
                                                        · simp only [Act.put, OpenRow.s1, OpenRow.s2, OpenRow.s3, i64_w, i32_w]; rfl
                                                        refine pure_ (i := 4) (N := some 208) (v := ?_) (a' := ?_) #[true, true, true, true, true, false, false, false, false, false, false, false, false, false, false, false, false, false, false, false, false, false, false, false, false, false, false, false, false, false] rfl rfl (by kernel_rfl) (fun _ _ _ h => h) (Or.inl ⟨by rfl, ?_⟩) ?_ ?_
                                                        rotate_left
                                                        · intro w'
                                                          go_simp; rw [Y8.out]; all_goals with_reducible rfl
                                                        rotate_left
                                                        · simp only [Act.put, OpenRow.s1, OpenRow.s2, OpenRow.s3, i64_w, i32_w]; rfl
                                                        refine pure_ (i := 5) (N := some 209) (v := ?_) (a' := ?_) #[true, true, true, true, true, true, false, false, false, false, false, false, false, false, false, false, false, false, false, false, false, false, false, false, false, false, false, false, false, false] rfl rfl (by kernel_rfl) (fun _ _ _ h => h) (Or.inl ⟨by rfl, ?_⟩) ?_ ?_
                                                        rotate_left
                                                        · intro w'; go_simp; with_reducible rfl
                                                        rotate_left
                                                        · simp only [Act.put, OpenRow.s1, OpenRow.s2, OpenRow.s3, i64_w, i32_w]; rfl
                                                        refine pure_ (i := 6) (N := some 210) (v := ?_) (a' := ?_) #[true, true, true, true, true, true, true, false, false, false, false, false, false, false, false, false, false, false, false, false, false, false, false, false, false, false, false, false, false, false] rfl rfl (by kernel_rfl) (fun _ _ _ h => h) (Or.inl ⟨by rfl, ?_⟩) ?_ ?_
                                                        rotate_left
                                                        · intro w'; go_simp; with_reducible rfl
                                                        rotate_left
                                                        · simp only [Act.put, OpenRow.s1, OpenRow.s2, OpenRow.s3, i64_w, i32_w]; rfl
                                                        as_aux_lemma =>
                                                          refine pure_ (i := 8) (N := some 212) (v := ?_) (a' := ?_) #[true, true, true, true, true, true, true, false, true, false, false, false, false, false, false, false, false, false, false, false, false, false, false, false, false, false, false, false, false, false] rfl rfl (by kernel_rfl) (fun _ _ _ h => h) (Or.inl ⟨by rfl, ?_⟩) ?_ ?_
                                                          rotate_left
                                                          · intro w'; go_simp; with_reducible rfl
                                                          rotate_left
                                                          · simp only [Act.put, OpenRow.s1, OpenRow.s2, OpenRow.s3, i64_w, i32_w]; rfl
                                                          refine pure_ (i := 9) (N := some 213) (v := ?_) (a' := ?_) #[true, true, true, true, true, true, true, false, true, true, false, false, false, false, false, false, false, false, false, false, false, false, false, false, false, false, false, false, false, false] rfl rfl (by kernel_rfl) (fun _ _ _ h => h) (Or.inl ⟨by rfl, ?_⟩) ?_ ?_
                                                          rotate_left
                                                          · intro w'; go_simp; with_reducible rfl
                                                          rotate_left
                                                          · simp only [Act.put, OpenRow.s1, OpenRow.s2, OpenRow.s3, i64_w, i32_w]; rfl
                                                          refine pure_ (i := 11) (N := some 215) (v := ?_) (a' := ?_) #[true, true, true, true, true, true, true, false, true, true, false, true, false, false, false, false, false, false, false, false, false, false, false, false, false, false, false, false, false, false] rfl rfl (by kernel_rfl) (fun _ _ _ h => h) (Or.inl ⟨by rfl, ?_⟩) ?_ ?_
                                                          rotate_left
                                                          · intro w'; go_simp; with_reducible rfl
                                                          rotate_left
                                                          · simp only [Act.put, OpenRow.s1, OpenRow.s2, OpenRow.s3, i64_w, i32_w]; rfl
                                                          refine pure_ (i := 12) (N := some 216) (v := ?_) (a' := ?_) #[true, true, true, true, true, true, true, false, true, true, false, true, true, false, false, false, false, false, false, false, false, false, false, false, false, false, false, false, false, false] rfl rfl (by kernel_rfl) (fun _ _ _ h => h) (Or.inl ⟨by rfl, ?_⟩) ?_ ?_
                                                          rotate_left
                                                          · intro w'; go_simp; with_reducible rfl
                                                          rotate_left
                                                          · simp only [Act.put, OpenRow.s1, OpenRow.s2, OpenRow.s3, i64_w, i32_w]; rfl
                                                          refine pure_ (i := 14) (N := some 218) (v := ?_) (a' := ?_) #[true, true, true, true, true, true, true, false, true, true, false, true, true, false, true, false, false, false, false, false, false, false, false, false, false, false, false, false, false, false] rfl rfl (by kernel_rfl) (fun _ _ _ h => h) (Or.inl ⟨by rfl, ?_⟩) ?_ ?_
                                                          rotate_left
                                                          · intro w'; go_simp; with_reducible rfl
                                                          rotate_left
                                                          · simp only [Act.put, OpenRow.s1, OpenRow.s2, OpenRow.s3, i64_w, i32_w]; rfl
                                                          refine pure_ (i := 15) (N := some 219) (v := ?_) (a' := ?_) #[true, true, true, true, true, true, true, false, true, true, false, true, true, false, true, true, false, false, false, false, false, false, false, false, false, false, false, false, false, false] rfl rfl (by kernel_rfl) (fun _ _ _ h => h) (Or.inl ⟨by rfl, ?_⟩) ?_ ?_
                                                          rotate_left
                                                          · intro w'; go_simp; with_reducible rfl
                                                          rotate_left
                                                          · simp only [Act.put, OpenRow.s1, OpenRow.s2, OpenRow.s3, i64_w, i32_w]; rfl
                                                          refine pure_ (i := 17) (N := some 221) (v := ?_) (a' := ?_) #[true, true, true, true, true, true, true, false, true, true, false, true, true, false, true, true, false, true, false, false, false, false, false, false, false, false, false, false, false, false] rfl rfl (by kernel_rfl) (fun _ _ _ h => h) (Or.inl ⟨by rfl, ?_⟩) ?_ ?_
                                                          rotate_left
                                                          · intro w'; go_simp; with_reducible rfl
                                                          rotate_left
                                                          · simp only [Act.put, OpenRow.s1, OpenRow.s2, OpenRow.s3, i64_w, i32_w]; rfl
                                                          refine pure_ (i := 19) (N := some 223) (v := ?_) (a' := ?_) #[true, true, true, true, true, true, true, false, true, true, false, true, true, false, true, true, false, true, false, true, false, false, false, false, false, false, false, false, false, false] rfl rfl (by kernel_rfl) (fun _ _ _ h => h) (Or.inl ⟨by rfl, ?_⟩) ?_ ?_
                                                          rotate_left
                                                          · intro w'; go_simp; with_reducible rfl
                                                          rotate_left
                                                          · simp only [Act.put, OpenRow.s1, OpenRow.s2, OpenRow.s3, i64_w, i32_w]; rfl
                                                          as_aux_lemma =>
                                                            refine pure_ (i := 20) (N := some 224) (v := ?_) (a' := ?_) #[true, true, true, true, true, true, true, false, true, true, false, true, true, false, true, true, false, true, false, true, true, false, false, false, false, false, false, false, false, false] rfl rfl (by kernel_rfl) (fun _ _ _ h => h) (Or.inl ⟨by rfl, ?_⟩) ?_ ?_
                                                            rotate_left
                                                            · intro w'; go_simp; with_reducible rfl
                                                            rotate_left
                                                            · simp only [Act.put, OpenRow.s1, OpenRow.s2, OpenRow.s3, i64_w, i32_w]; rfl
                                                            refine pure_ (i := 22) (N := some 226) (v := ?_) (a' := ?_) #[true, true, true, true, true, true, true, false, true, true, false, true, true, false, true, true, false, true, false, true, true, false, true, false, false, false, false, false, false, false] rfl rfl (by kernel_rfl) (fun _ _ _ h => h) (Or.inl ⟨by rfl, ?_⟩) ?_ ?_
                                                            rotate_left
                                                            · intro w'; go_simp; with_reducible rfl
                                                            rotate_left
                                                            · simp only [Act.put, OpenRow.s1, OpenRow.s2, OpenRow.s3, i64_w, i32_w]; rfl
                                                            refine pure_ (i := 23) (N := some 227) (v := ?_) (a' := ?_) #[true, true, true, true, true, true, true, false, true, true, false, true, true, false, true, true, false, true, false, true, true, false, true, true, false, false, false, false, false, false] rfl rfl (by kernel_rfl) (fun _ _ _ h => h) (Or.inl ⟨by rfl, ?_⟩) ?_ ?_
                                                            rotate_left
                                                            · intro w'; go_simp; with_reducible rfl
                                                            rotate_left
                                                            · simp only [Act.put, OpenRow.s1, OpenRow.s2, OpenRow.s3, i64_w, i32_w]; rfl
                                                            refine pure_ (i := 25) (N := some 229) (v := ?_) (a' := ?_) #[true, true, true, true, true, true, true, false, true, true, false, true, true, false, true, true, false, true, false, true, true, false, true, true, false, true, false, false, false, false] rfl rfl (by kernel_rfl) (fun _ _ _ h => h) (Or.inl ⟨by rfl, ?_⟩) ?_ ?_
                                                            rotate_left
                                                            · intro w'; go_simp; with_reducible rfl
                                                            rotate_left
                                                            · simp only [Act.put, OpenRow.s1, OpenRow.s2, OpenRow.s3, i64_w, i32_w]; rfl
                                                            refine pure_ (i := 26) (N := some 230) (v := ?_) (a' := ?_) #[true, true, true, true, true, true, true, false, true, true, false, true, true, false, true, true, false, true, false, true, true, false, true, true, false, true, true, false, false, false] rfl rfl (by kernel_rfl) (fun _ _ _ h => h) (Or.inl ⟨by rfl, ?_⟩) ?_ ?_
                                                            rotate_left
                                                            · intro w'; go_simp; with_reducible rfl
                                                            rotate_left
                                                            · simp only [Act.put, OpenRow.s1, OpenRow.s2, OpenRow.s3, i64_w, i32_w]; rfl
                                                            refine take_ (i := 7) (N := some 211) (v := ?_) (a' := ?_) #[true, true, true, true, true, true, true, true, true, true, false, true, true, false, true, true, false, true, false, true, true, false, true, true, false, true, true, false, false, false] rfl rfl (by kernel_rfl) (fun _ _ _ h => h) (Or.inl ⟨by rfl, ?_⟩) hHeld ?_ ?_
                                                            rotate_left
                                                            · rintro w' ⟨s0, s1, s2, s3, s4, s5, s6⟩
                                                              go_simp
                                                              with_reducible rfl
                                                            rotate_left
                                                            · simp only [Act.put, OpenRow.s1, OpenRow.s2, OpenRow.s3, i64_w, i32_w]; rfl
                                                            refine take_ (i := 10) (N := some 214) (v := ?_) (a' := ?_) #[true, true, true, true, true, true, true, true, true, true, true, true, true, false, true, true, false, true, false, true, true, false, true, true, false, true, true, false, false, false] rfl rfl (by kernel_rfl) (fun _ _ _ h => h) (Or.inl ⟨by rfl, ?_⟩) hHeld ?_ ?_
                                                            rotate_left
                                                            · rintro w' ⟨s0, s1, s2, s3, s4, s5, s6⟩
                                                              go_simp
                                                              with_reducible rfl
                                                            rotate_left
                                                            · simp only [Act.put, OpenRow.s1, OpenRow.s2, OpenRow.s3, i64_w, i32_w]; rfl
                                                            refine take_ (i := 13) (N := some 217) (v := ?_) (a' := ?_) #[true, true, true, true, true, true, true, true, true, true, true, true, true, true, true, true, false, true, false, true, true, false, true, true, false, true, true, false, false, false] rfl rfl (by kernel_rfl) (fun _ _ _ h => h) (Or.inl ⟨by rfl, ?_⟩) hHeld ?_ ?_
                                                            rotate_left
                                                            · rintro w' ⟨s0, s1, s2, s3, s4, s5, s6⟩
                                                              go_simp
                                                              with_reducible rfl
                                                            rotate_left
                                                            · simp only [Act.put, OpenRow.s1, OpenRow.s2, OpenRow.s3, i64_w, i32_w]; rfl
                                                            as_aux_lemma =>
                                                              refine take_ (i := 16) (N := some 220) (v := ?_) (a' := ?_) #[true, true, true, true, true, true, true, true, true, true, true, true, true, true, true, true, true, true, false, true, true, false, true, true, false, true, true, false, false, false] rfl rfl (by kernel_rfl) (fun _ _ _ h => h) (Or.inl ⟨by rfl, ?_⟩) hHeld ?_ ?_
                                                              rotate_left
                                                              · rintro w' ⟨s0, s1, s2, s3, s4, s5, s6⟩
                                                                go_simp
                                                                with_reducible rfl
                                                              rotate_left
                                                              · simp only [Act.put, OpenRow.s1, OpenRow.s2, OpenRow.s3, i64_w, i32_w]; rfl
                                                              refine pure_ (i := 18) (N := some 222) (v := ?_) (a' := ?_) #[true, true, true, true, true, true, true, true, true, true, true, true, true, true, true, true, true, true, true, true, true, false, true, true, false, true, true, false, false, false] rfl rfl (by kernel_rfl) (fun _ _ _ h => h) (Or.inl ⟨by rfl, ?_⟩) ?_ ?_
                                                              rotate_left
                                                              · intro w'
                                                                go_simp; rw [Y9.out]; all_goals with_reducible rfl
                                                              rotate_left
                                                              · simp only [Act.put, OpenRow.s1, OpenRow.s2, OpenRow.s3, i64_w, i32_w]; rfl
                                                              refine take_ (i := 21) (N := some 225) (v := ?_) (a' := ?_) #[true, true, true, true, true, true, true, true, true, true, true, true, true, true, true, true, true, true, true, true, true, true, true, true, false, true, true, false, false, false] rfl rfl (by kernel_rfl) (fun _ _ _ h => h) (Or.inl ⟨by rfl, ?_⟩) hHeld ?_ ?_
                                                              rotate_left
                                                              · rintro w' ⟨s0, s1, s2, s3, s4, s5, s6⟩
                                                                go_simp
                                                                with_reducible rfl
                                                              rotate_left
                                                              · simp only [Act.put, OpenRow.s1, OpenRow.s2, OpenRow.s3, i64_w, i32_w]; rfl
                                                              refine take_ (i := 24) (N := some 228) (v := ?_) (a' := ?_) #[true, true, true, true, true, true, true, true, true, true, true, true, true, true, true, true, true, true, true, true, true, true, true, true, true, true, true, false, false, false] rfl rfl (by kernel_rfl) (fun _ _ _ h => h) (Or.inl ⟨by rfl, ?_⟩) hHeld ?_ ?_
                                                              rotate_left
                                                              · rintro w' ⟨s0, s1, s2, s3, s4, s5, s6⟩
                                                                go_simp
                                                                with_reducible rfl
                                                              rotate_left
                                                              · simp only [Act.put, OpenRow.s1, OpenRow.s2, OpenRow.s3, i64_w, i32_w]; rfl
                                                              refine take_ (i := 27) (N := some 231) (v := ?_) (a' := ?_) #[true, true, true, true, true, true, true, true, true, true, true, true, true, true, true, true, true, true, true, true, true, true, true, true, true, true, true, true, false, false] rfl rfl (by kernel_rfl) (fun _ _ _ h => h) (Or.inl ⟨by rfl, ?_⟩) hHeld ?_ ?_
                                                              rotate_left
                                                              · rintro w' ⟨s0, s1, s2, s3, s4, s5, s6⟩
                                                                go_simp
                                                                with_reducible rfl
                                                              rotate_left
                                                              · simp only [Act.put, OpenRow.s1, OpenRow.s2, OpenRow.s3, i64_w, i32_w]; rfl
                                                              refine last_ (i := 28) (N := some 232) #[true, true, true, true, true, true, true, true, true, true, true, true, true, true, true, true, true, true, true, true, true, true, true, true, true, true, true, true, true, false] rfl rfl (by kernel_rfl) (by decide) (fun K hK => ?_)
                                                              refine Kd.R_lit_step (w0 := w) (Kd.int .u64) w.heap.size 32 (by rfl) (N := 232) rfl (xs := [e0, va, vb, vc, e4, ve, vf, vg]) (inner := [.int .u64 e0, .int .u64 va, .int .u64 vb, .int .u64 vc, .int .u64 e4, .int .u64 ve, .int .u64 vf, .int .u64 vg]) (ok := fun _ => True) (okp := fun _ => True) ?hr ?hp (fun _ hk => hk) trivial Z0.out (below_size Z0.out) (by simp) ?_
                                                              case hr => exact run_bs rfl #[(0, .int .u64 e0), (1, .int .u64 va), (2, .int .u64 vb), (3, .int .u64 vc), (4, .int .u64 e4), (5, .int .u64 ve), (6, .int .u64 vf), (7, .int .u64 vg)] () (by simp only [List.map_toArray, List.map_cons, List.map_nil] <;> rfl) (bs8 e0 va vb vc e4 ve vf vg _)
                                                              case hp => exact Kd.reps_scalar _
                                                              intro vn w4 ho hb hg_ hnew_
                                                              have V1 := Aside0.mk ho
                                                              have Z1 := Aside0.mk hb
                                                              have U1 := Aside0.mk (Kd.R_grown U0.out hg_ (fun _ _ => by simp))
                                                              obtain ⟨gn, cn, en, _, _, _⟩ := Kd.R_form ho (by simp)
                                                              subst en
                                                              clear ho hb hg_ hnew_
                                                              refine hK.out _ _ ?_
                                                              clear hK K
                                                              refine norm_ (a' := ?_) ?_ ?_
                                                              rotate_left
                                                              · show Act.put _ (some 232) _ = _
                                                                simp only [Act.put, OpenRow.s1, OpenRow.s2, OpenRow.s3, i64_w, i32_w]
                                                                rfl
                                                              refine pure_ (i := 29) (N := some 13) (v := ?_) (a' := ?_) #[true, true, true, true, true, true, true, true, true, true, true, true, true, true, true, true, true, true, true, true, true, true, true, true, true, true, true, true, true, true] rfl rfl (by kernel_rfl) (fun _ _ _ h => h) (Or.inl ⟨by rfl, ?_⟩) ?_ ?_
                                                              rotate_left
                                                              · intro w'; go_simp; with_reducible rfl
                                                              rotate_left
                                                              · simp only [Act.put, OpenRow.s1, OpenRow.s2, OpenRow.s3, i64_w, i32_w]; rfl
                                                              refine done_ (by kernel_rfl) ?_

                                                              clear V0 U0 Z0
                                                              as_aux_lemma =>
                                                                (repeat go_step)
                                                                go_roundg (80 - (i + 1))
                                                                case measure => omega
                                                                case rel => exact ⟨i + 1, _, _, by omega, by omega, by go_num, rfl, U1, by rw [EQ.out]; exact V1, Z1⟩
                        · obtain rfl : i = 80 := by omega
                          as_aux_lemma =>
                            have hneg80 : ¬ ((80 : Nat) : Int) < 80 := by omega
                            have HVL := Aside0.mk (rdsS_length K Ws h HHL.out 80)
                            generalize rdsS K Ws h 80 = vs at *
                            clear hlt hi hg
                            go_wp2_with (first
                              | ((with_reducible refine gate_dst (N := 233) rfl ?_); refine Kd.R_lit (w0 := w) (Kd.int .u64) w.heap.size 32 rfl (N := 233) rfl (xs := ([] : List Int)) (inner := []) (ok := fun _ => True) (okp := fun _ => True) ?hr ?hp (fun _ hk => hk) trivial B1.out (below_size B1.out) (by simp) ?_; (case hr => first | (go_simp; done) | (go_simp; rfl)); (case hp => exact Kd.reps_scalar _); intro v4 w4 ho hb hg_ hnew_; have O0 := Aside0.mk ho; have Z0 := Aside0.mk hb; have V0 := Aside0.mk (Kd.R_grown RV.out hg_ (fun _ _ => by simp)); have NE := Aside0.mk (fresh_ne3 hnew_ RV.out); clear ho hb hg_ hnew_))
                            clear RV RW B1
                            as_aux_lemma =>
                              go_loopg [20, 21] 9 (fun gg v20 v21 wr => ∃ (k : Nat) (vv : Value), k ≤ 8 ∧ 8 - k ≤ gg ∧ v21 = .int .i64 (k : Int) ∧ vv = v20 ∧ Aside0 (Kd.R (Kd.int .u64) 32 wr w.heap.size (fun _ => True) vv (outS h vs k)) ∧ Aside0 (Kd.R (Kd.int .u64) 32 wr w.heap.size (fun _ => True) (.slice (some ⟨gv, 0, none⟩) 8 cv) vs) ∧ Aside0 (∀ q, vv.ownBlock = some q → (Value.slice (some ⟨gv, 0, none⟩) 8 cv).ownBlock ≠ some q) ∧ Aside0 (Below w.heap.size w wr))
                              case atStart => exact ⟨0, _, by omega, by omega, rfl, rfl, O0, V0, NE, Z0⟩
                              case round =>
                                clear O0 V0 NE Z0
                                obtain ⟨k, vv, hk, hg, rfl, rfl, O, V, NE, Z⟩ := hrel
                                by_cases hlt : k < 8
                                · have hltk : (k : Int) < 8 := by omega
                                  obtain ⟨xh, hxh⟩ : ∃ x, x = h.getD k 0 := ⟨_, rfl⟩
                                  obtain ⟨xv, hxv⟩ : ∃ x, x = vs.getD k 0 := ⟨_, rfl⟩
                                  obtain ⟨adH, eH, _⟩ := cellC HH.out k hlt
                                  subst eH
                                  have CH := Aside0.mk (fun W (hW : Below w.heap.size w W) => (by obtain ⟨ad, e, hc_⟩ := cellC (Kd.C_below HH.out hW) k hlt; cases e; rw [hxh]; exact hc_ : W.cell? (adH.add k) = some (.int .u64 xh)))
                                  have CV := Aside0.mk (fun W (hW : Kd.R (Kd.int .u64) 32 W w.heap.size (fun _ => True) (.slice (some ⟨gv, 0, none⟩) 8 cv) vs) => (by rw [hxv]; exact cellR hW HVL.out hlt : W.cell? ⟨gv, k, none⟩ = some (.int .u64 xv)))
                                  have LO := Aside0.mk (show (outS h vs k).length ≤ 8 by rw [outS_length]; omega)
                                  have EQ := Aside0.mk (show outS h vs (k + 1) = outS h vs k ++ [IntKind.u64.wrap (xh + xv)] by rw [hxh, hxv]; rfl)
                                  obtain ⟨sm, hsm⟩ : ∃ x, x = IntKind.u64.wrap (xh + xv) := ⟨_, rfl⟩
                                  rw [← hsm] at EQ
                                  have SM := Aside0.mk hsm.symm
                                  clear hxh hxv hsm
                                  generalize outS h vs k = os at *
                                  have O0 := Aside0.mk (Kd.R_drew O.out)
                                  have V0 := Aside0.mk (Kd.R_drew V.out)
                                  have Z0 := Aside0.mk (below_drew Z.out)
                                  clear O V Z
                                  as_aux_lemma =>
                                    (repeat go_step)
                                    refine start_ (n := 13) (S := fun w' => w'.cell? (adH.add k) = some (.int .u64 xh) ∧ w'.cell? ⟨gv, k, none⟩ = some (.int .u64 xv)) (ds := [11]) #[false, false, false, false, false, false, false, false, false, false, false, false, false] (by kernel_rfl) rfl rfl ⟨CH.out _ Z0.out, CV.out _ V0.out⟩ (fun hHeld => ?_)
                                    refine pure_ (i := 0) (N := some 238) (v := ?_) (a' := ?_) #[true, false, false, false, false, false, false, false, false, false, false, false, false] rfl rfl (by kernel_rfl) (fun _ _ _ h => h) (Or.inl ⟨by rfl, ?_⟩) ?_ ?_
                                    rotate_left
                                    · intro w'; go_simp; with_reducible rfl
                                    rotate_left
                                    · simp only [Act.put, OpenRow.s1, OpenRow.s2, OpenRow.s3, i64_w, i32_w]; rfl
                                    refine pure_ (i := 1) (N := some 239) (v := ?_) (a' := ?_) #[true, true, false, false, false, false, false, false, false, false, false, false, false] rfl rfl (by kernel_rfl) (fun _ _ _ h => h) (Or.inl ⟨by rfl, ?_⟩) ?_ ?_
                                    rotate_left
                                    · intro w'; go_simp; with_reducible rfl
                                    rotate_left
                                    · simp only [Act.put, OpenRow.s1, OpenRow.s2, OpenRow.s3, i64_w, i32_w]; rfl
                                    as_aux_lemma =>
                                      refine pure_ (i := 2) (N := some 240) (v := ?_) (a' := ?_) #[true, true, true, false, false, false, false, false, false, false, false, false, false] rfl rfl (by kernel_rfl) (fun _ _ _ h => h) (Or.inl ⟨by rfl, ?_⟩) ?_ ?_
                                      rotate_left
                                      · intro w'; go_simp; with_reducible rfl
                                      rotate_left
                                      · simp only [Act.put, OpenRow.s1, OpenRow.s2, OpenRow.s3, i64_w, i32_w]; rfl
                                      refine pure_ (i := 3) (N := some 241) (v := ?_) (a' := ?_) #[true, true, true, true, false, false, false, false, false, false, false, false, false] rfl rfl (by kernel_rfl) (fun _ _ _ h => h) (Or.inl ⟨by rfl, ?_⟩) ?_ ?_
                                      rotate_left
                                      · intro w'; go_simp; with_reducible rfl
                                      rotate_left
                                      · simp only [Act.put, OpenRow.s1, OpenRow.s2, OpenRow.s3, i64_w, i32_w]; rfl
                                      refine pure_ (i := 5) (N := some 243) (v := ?_) (a' := ?_) #[true, true, true, true, false, true, false, false, false, false, false, false, false] rfl rfl (by kernel_rfl) (fun _ _ _ h => h) (Or.inl ⟨by rfl, ?_⟩) ?_ ?_
                                      rotate_left
                                      · intro w'; go_simp; with_reducible rfl
                                      rotate_left
                                      · simp only [Act.put, OpenRow.s1, OpenRow.s2, OpenRow.s3, i64_w, i32_w]; rfl
                                      refine pure_ (i := 6) (N := some 244) (v := ?_) (a' := ?_) #[true, true, true, true, false, true, true, false, false, false, false, false, false] rfl rfl (by kernel_rfl) (fun _ _ _ h => h) (Or.inl ⟨by rfl, ?_⟩) ?_ ?_
                                      rotate_left
                                      · intro w'; go_simp; with_reducible rfl
                                      rotate_left
                                      · simp only [Act.put, OpenRow.s1, OpenRow.s2, OpenRow.s3, i64_w, i32_w]; rfl
                                      refine pure_ (i := 7) (N := some 245) (v := ?_) (a' := ?_) #[true, true, true, true, false, true, true, true, false, false, false, false, false] rfl rfl (by kernel_rfl) (fun _ _ _ h => h) (Or.inl ⟨by rfl, ?_⟩) ?_ ?_
                                      rotate_left
                                      · intro w'; go_simp; with_reducible rfl
                                      rotate_left
                                      · simp only [Act.put, OpenRow.s1, OpenRow.s2, OpenRow.s3, i64_w, i32_w]; rfl
                                      refine take_ (i := 4) (N := some 242) (v := ?_) (a' := ?_) #[true, true, true, true, true, true, true, true, false, false, false, false, false] rfl rfl (by kernel_rfl) (fun _ _ _ h => h) (Or.inl ⟨by rfl, ?_⟩) hHeld ?_ ?_
                                      rotate_left
                                      · rintro w' ⟨s0, s1⟩
                                        go_simp
                                        with_reducible rfl
                                      rotate_left
                                      · simp only [Act.put, OpenRow.s1, OpenRow.s2, OpenRow.s3, i64_w, i32_w]; rfl
                                      refine take_ (i := 8) (N := some 246) (v := ?_) (a' := ?_) #[true, true, true, true, true, true, true, true, true, false, false, false, false] rfl rfl (by kernel_rfl) (fun _ _ _ h => h) (Or.inl ⟨by rfl, ?_⟩) hHeld ?_ ?_
                                      rotate_left
                                      · rintro w' ⟨s0, s1⟩
                                        go_simp
                                        with_reducible rfl
                                      rotate_left
                                      · simp only [Act.put, OpenRow.s1, OpenRow.s2, OpenRow.s3, i64_w, i32_w]; rfl
                                      refine pure_ (i := 9) (N := some 247) (v := ?_) (a' := ?_) #[true, true, true, true, true, true, true, true, true, true, false, false, false] rfl rfl (by kernel_rfl) (fun _ _ _ h => h) (Or.inl ⟨by rfl, ?_⟩) ?_ ?_
                                      rotate_left
                                      · intro w'
                                        go_simp; rw [SM.out]; all_goals with_reducible rfl
                                      rotate_left
                                      · simp only [Act.put, OpenRow.s1, OpenRow.s2, OpenRow.s3, i64_w, i32_w]; rfl
                                      as_aux_lemma =>
                                        refine one_ (i := 10) (N := some 248) #[true, true, true, true, true, true, true, true, true, true, true, false, false] rfl rfl (by kernel_rfl) (by decide) (fun K hK => ?_)
                                        refine value_ (w1 := ?_) (v := ?_) (by rfl) rfl ?_ ?_
                                        rotate_left 2
                                        · go_simp
                                          constructor
                                          · rfl
                                          · rfl
                                        have Z2 := Aside0.mk (below_alloc Z0.out (.cells #[.int .u64 sm] 32))
                                        have V2 := Aside0.mk (Kd.R_alloc V0.out (.cells #[.int .u64 sm] 32))
                                        refine hK.out _ _ ⟨CH.out _ Z2.out, CV.out _ V2.out⟩ (fun hHeld => ?_)
                                        clear hK K
                                        refine norm_ (a' := ?_) ?_ ?_
                                        rotate_left
                                        · show Act.put _ (some 248) _ = _
                                          simp only [Act.put, OpenRow.s1, OpenRow.s2, OpenRow.s3, i64_w, i32_w]
                                          rfl
                                        refine last_ (i := 11) (N := some 249) #[true, true, true, true, true, true, true, true, true, true, true, true, false] rfl rfl (by kernel_rfl) (by decide) (fun K hK => ?_)
                                        refine Kd.R_append_step (Kd.int .u64) (w0 := w) w.heap.size (by rfl) (.tmp 238) (.tmp 248) 37 32 (.int .u64 0) 8 (by rfl) Try.underlying37 infoU rfl (by decide) (by decide) vv os sm [.int .u64 sm] (fun _ => True) (fun _ => False) (by rfl) (by rfl) ?aP (fun _ hk => hk.elim) (fun _ _ => trivial) O0.out Z0.out (below_size Z0.out) ?aL ?_
                                        case aP => exact rfl
                                        case aL => have := LO.out; omega
                                        intro vn w6 ho hb hg_ hat
                                        rw [← EQ.out] at ho
                                        have O3 := Aside0.mk ho
                                        have Z3 := Aside0.mk hb
                                        have V3 := Aside0.mk (Kd.R_grown2 V0.out rfl hg_ (fun k e1 e2 => NE.out k e1 e2.symm))
                                        have NE3 := Aside0.mk (ne_after1 NE.out hat (Kd.R_lt V0.out))
                                        clear ho hb hg_ hat Z2 V2
                                        refine hK.out _ _ ?_
                                        clear hK K
                                        refine norm_ (a' := ?_) ?_ ?_
                                        rotate_left
                                        · show Act.put _ (some 249) _ = _
                                          simp only [Act.put, OpenRow.s1, OpenRow.s2, OpenRow.s3, i64_w, i32_w]
                                          rfl
                                        refine pure_ (i := 12) (N := some 20) (v := ?_) (a' := ?_) #[true, true, true, true, true, true, true, true, true, true, true, true, true] rfl rfl (by kernel_rfl) (fun _ _ _ h => h) (Or.inl ⟨by rfl, ?_⟩) ?_ ?_
                                        rotate_left
                                        · intro w'; go_simp; with_reducible rfl
                                        rotate_left
                                        · simp only [Act.put, OpenRow.s1, OpenRow.s2, OpenRow.s3, i64_w, i32_w]; rfl
                                        refine done_ (by kernel_rfl) ?_

                                        as_aux_lemma =>
                                          (repeat go_step)
                                          go_roundg (8 - (k + 1))
                                          case measure => omega
                                          case rel => exact ⟨k + 1, _, by omega, by omega, by go_num, rfl, O3, V3, NE3, Z3⟩
                                · obtain rfl : k = 8 := by omega
                                  as_aux_lemma =>
                                    have hneg8 : ¬ ((8 : Nat) : Int) < 8 := by omega
                                    rw [← EB.out] at O
                                    clear hlt hk hg
                                    go_wp2
                                    go_ret
                                    exact ⟨_, rfl, O.out, Z.out⟩


end Go.Proofs.Ytlphppkhihabdaa.XN
