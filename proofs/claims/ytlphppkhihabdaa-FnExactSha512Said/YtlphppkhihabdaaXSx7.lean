-- Written by a program of this session (xp.py over the kit's printer, with functions proved by hand). Lean checks it.
import Derived.Test.YtlphppkhihabdaaXSx0
import Derived.Test.YtlphppkhihabdaaXSx5
import Derived.Test.YtlphppkhihabdaaXSx6
namespace Go.Proofs.Ytlphppkhihabdaa.XS
open Go.Proofs.Ytlphppkhihabdaa.Limb Go.Proofs.Ytlphppkhihabdaa.Arr Go.Proofs.Ytlphppkhihabdaa.FldA Go.Proofs.Ytlphppkhihabdaa.St Go.Proofs.Ytlphppkhihabdaa.OpenS Go.Proofs.Ytlphppkhihabdaa.StOps Go.Proofs.Ytlphppkhihabdaa.StMid Go.Proofs.Ytlphppkhihabdaa.StIdx Go.Proofs.Ytlphppkhihabdaa.StPt Go.Proofs.Ytlphppkhihabdaa.StBd Go.Proofs.Ytlphppkhihabdaa.ShaA Go.Proofs.Ytlphppkhihabdaa.ShaB Go.Proofs.Ytlphppkhihabdaa.ShaS
open Go.RowKit Go.Proofs.YtlphppkhihabdaaW.PrintWords Go.Proofs.YtlphppkhihabdaaW.PrintLast Go.Proofs.YtlphppkhihabdaaW.PrintMore
attribute [local go_sem] max2_int min2_int max_two min_two max_three min_three max_four min_four   -- for this text's walks alone
set_option linter.unusedVariables false
set_option linter.unusedSimpArgs false

/-! ### impl_sha512: function 15 -/
theorem hsh_length (K h p : List Int) (hh : h.length = 8) (i : Nat) : (hsh K h p i).length = 8 := by
  induction i with
  | zero => exact hh
  | succ i ih => show (addH _ _ 8).length = 8; rw [addH_length, ih]
theorem outL_length (vs : List Int) (k : Nat) : (outL vs k).length = 8 * k := by
  induction k with
  | zero => rfl
  | succ k ih => show (outL vs k ++ be8 _).length = _; rw [List.length_append, ih, be8_length]; omega
theorem big8 (x : Int) : impl_big.f 20 x 8 = some (be8 x) := by
  kernel_rfl
theorem big8_calls (x : Int) (W : World) : Calls Try.prog 22 #[.int .i64 x, .int .i64 8] W fun e w' => ∃ v0_ : Value, e = .returned (v0_) ∧ Kd.R (Kd.int .u8) 5 w' W.heap.size (fun _ => True) v0_ (be8 x) ∧ Below W.heap.size W w' := impl_big.calls 20 x 8 (be8 x) W (big8 x)
set_option maxHeartbeats 40000000 in
set_option maxRecDepth 100000 in
theorem impl_sha512.calls (g c0 : Nat) (ls : List (List Int)) (As : Nat → Option Addr) (cs : Nat → Nat) (w : World) (hn : ls.length < 1000) (htot : ls.flatten.length < 1000000000)
    (hv : ∀ i, i < ls.length → w.cell? ⟨g, i, none⟩ = some (.slice (As i) (ls.getD i []).length (cs i)) ∧ Kd.C (Kd.int .u8) w (As i) (ls.getD i []).length (ls.getD i []) ∧ (ls.getD i []).length ≤ cs i) :
    Calls Try.prog 15 #[.slice (some ⟨g, 0, none⟩) ls.length c0] w fun e w' => ∃ v, e = .returned v ∧ Kd.R (Kd.int .u8) 5 w' w.heap.size (fun _ => True) v (digest ls.flatten) ∧ Below w.heap.size w w' := by
  have infoE : (Try.prog.info? 5).map (fun i => (i.zero, i.size, i.bytes)) = some (some (.int .u8 0), 1, 1) := by kernel_rfl
  have INFO := Aside0.mk infoE
  clear infoE
  have hd0 : (Kd.int .u8).M w w.heap.size (fun _ => False) 0 (Value.int .u8 0).cells.toList := by first | exact rfl | trivial | exact ⟨rfl, rfl⟩ | simp
  have HD0 := Aside0.mk hd0
  have CC := Aside0.mk (slices_Concat.calls g c0 ls As cs w hn (by omega) hv)
  clear hn hv hd0
  generalize ls.flatten = l at *
  have HL := Aside0.mk htot
  obtain ⟨l1, e1⟩ : ∃ x, x = l ++ [128] := ⟨_, rfl⟩
  obtain ⟨z, ez⟩ : ∃ x, x = zN l.length := ⟨_, rfl⟩
  obtain ⟨l2, e2⟩ : ∃ x, x = l1 ++ List.replicate z 0 := ⟨_, rfl⟩
  obtain ⟨l3, e3⟩ : ∃ x, x = l2 ++ be8 0 := ⟨_, rfl⟩
  obtain ⟨n, en⟩ : ∃ n, n = l.length := ⟨_, rfl⟩
  obtain ⟨l4, e4⟩ : ∃ x, x = l3 ++ be8 (8 * (n : Int)) := ⟨_, rfl⟩
  have EP := Aside0.mk (show padL l = l4 by rw [e4, e3, e2, e1, ez, en]; rfl)
  have q1 : l1.length = n + 1 := by rw [e1, en]; simp
  have q2 : l2.length = n + 1 + z := by rw [e2]; simp [q1]
  have q3 : l3.length = n + 1 + z + 8 := by rw [e3]; simp [q2, be8_length]
  have q4 : l4.length = n + 1 + z + 16 := by rw [e4]; simp [q3, be8_length]
  have hz : z < 128 := by rw [ez]; unfold zN; omega
  have L1 := Aside0.mk (show l.length + 1 < 1099511627776 by omega)
  have L2 := Aside0.mk (show l1.length + z < 1099511627776 by omega)
  have L3 := Aside0.mk (show l2.length + (be8 0).length < 1099511627776 by rw [be8_length]; omega)
  have L4 := Aside0.mk (show l3.length + (be8 (8 * (n : Int))).length < 1099511627776 by rw [be8_length]; omega)
  have E1 := Aside0.mk e1
  have E2 := Aside0.mk e2
  have E3 := Aside0.mk e3
  have E4 := Aside0.mk e4
  have HN := Aside0.mk en.symm
  obtain ⟨m1, em1⟩ : ∃ x, x = l1.length := ⟨_, rfl⟩
  obtain ⟨m2, em2⟩ : ∃ x, x = l2.length := ⟨_, rfl⟩
  obtain ⟨m3, em3⟩ : ∃ x, x = l3.length := ⟨_, rfl⟩
  obtain ⟨m4, em4⟩ : ∃ x, x = l4.length := ⟨_, rfl⟩
  have Q1 := Aside0.mk em1.symm
  have Q2 := Aside0.mk em2.symm
  have Q3 := Aside0.mk em3.symm
  have Q4 := Aside0.mk em4.symm
  have HM4 := Aside0.mk (show m4 = n + 1 + z + 16 by omega)
  have HZ := Aside0.mk (show z = (240 - (n + 1) % 128) % 128 by rw [ez, en]; rfl)
  have BG0 := Aside0.mk (big8_calls 0)
  have BGN := Aside0.mk (big8_calls (8 * (n : Int)))
  have hn9 : n < 1000000000 := by omega
  have hm1 : m1 = n + 1 := by omega
  clear e1 e2 e3 e4 ez q2 q3 q1 q4 htot en hz em1 em2 em3 em4
  obtain ⟨a1, ea1⟩ : ∃ x, x = m1 % 128 := ⟨_, rfl⟩
  obtain ⟨a2, ea2⟩ : ∃ x, x = 240 - a1 := ⟨_, rfl⟩
  have i1 : (m1 : Int) % 128 = (a1 : Int) := by omega
  have i2 : (240 : Int) - (a1 : Int) = (a2 : Int) := by omega
  have i3 : (a2 : Int) % 128 = (z : Int) := by have := HZ.out; omega
  have ha1 : a1 < 128 := by omega
  have ha2 : a2 ≤ 240 := by omega
  have HM1 := Aside0.mk hm1
  clear ea1 ea2 hm1
  obtain ⟨n8, en8⟩ : ∃ x : Int, x = 8 * (n : Int) := ⟨_, rfl⟩
  have w8 : wrap64 n8 = n8 := by unfold wrap64; omega
  rw [← en8] at BGN E4 L4
  have i8 : 8 * (n : Int) = n8 := en8.symm
  clear en8
  go_enter Try.func15, Try.ntmps15
  go_wp2_with (first
    | ((with_reducible refine (CC.out).mono ?_); rintro e w1 ⟨v1, rfl, hR, hb⟩; have R1 := Aside0.mk hR; have B1 := Aside0.mk hb; obtain ⟨A1, c1, rfl, hcl, hC⟩ := Kd.R_reads hR; clear hR hb hcl hC; rw [HN.out] at R1 ⊢)
    | ((with_reducible refine gate_builtin (b := .append) (xs := #[.tmp 14, .tmp 15]) rfl ?_); at_builtin; refine Kd.R_append (Kd.int .u8) (w0 := w) w.heap.size rfl (.tmp 14) (.tmp 15) 22 5 (.int .u8 0) 1 rfl Try.underlying22 INFO.out rfl (by decide) (by omega) (.slice A1 n c1) l 128 [.int .u8 128] (fun _ => True) (fun _ => False) rfl rfl ?aP (fun _ hk => hk.elim) ?aF ?aO ?aB ?aS ?aL ?_; (case aP => exact rfl); (case aB => exact (by repeat (first | exact B1.out | apply below_alloc | apply below_drew1))); (case aF => exact (fun _ _ => trivial)); (case aO => exact (by (with_reducible repeat (first | apply Kd.R_alloc | apply Kd.R_drewN | apply Kd.R_drew)); exact R1.out)); (case aS => exact (below_size (by repeat (first | exact B1.out | apply below_alloc | apply below_drew1)))); (case aL => have := L1.out; omega); intro v2 w2 ho hb hg hat; rw [← E1.out] at ho; have R2 := Aside0.mk ho; have B2 := Aside0.mk hb; obtain ⟨A2, c2, rfl, hcl, hC⟩ := Kd.R_reads ho; clear ho hb hg hat hcl hC; rw [Q1.out] at R2 ⊢)
    | ((with_reducible refine gate_builtin (b := .append) (xs := #[.tmp 17, .tmp 22]) rfl ?_); at_builtin; (try simp only [i1, i3]); refine Kd.R_append_zeros (Kd.int .u8) (w0 := w) w.heap.size rfl (.tmp 17) (.tmp 22) 22 3 5 (.int .u8 0) 1 rfl Try.underlying22 Try.underlying3 INFO.out rfl (by decide) (by decide) (.slice A2 m1 c2) l1 0 (z : Int) (fun _ => True) rfl rfl ?aZ ?aF ?aO ?a0 ?aB ?aS ?aL ?_; (case aZ => first | exact rfl | trivial | exact ⟨rfl, rfl⟩ | simp); (case aO => exact R2.out); (case aB => exact B2.out); (case aF => exact (fun _ _ => trivial)); (case aS => exact (below_size B2.out)); (case a0 => omega); (case aL => have := L2.out; rw [Int.toNat_natCast]; omega); intro v3 w3 ho hb hg hat; rw [Int.toNat_natCast, ← E2.out] at ho; have R3 := Aside0.mk ho; have B3 := Aside0.mk hb; obtain ⟨A3, c3, rfl, hcl, hC⟩ := Kd.R_reads ho; clear ho hb hg hat hcl hC; rw [Q2.out] at R3 ⊢)
    | ((with_reducible refine (BG0.out _).mono ?_); rintro e w4 ⟨vv, rfl, hR, hb⟩; obtain ⟨Ab3, cb3, rfl, hcl, hC⟩ := Kd.R_reads hR; have Cb3 := Aside0.mk hC; have R3b := Aside0.mk (Kd.R_below R3.out hb); have B3b := Aside0.mk (below_step B3.out hb); clear hR hb hcl hC)
    | ((with_reducible refine gate_builtin (b := .append) (xs := #[.tmp 24, .tmp 25]) rfl ?_); at_builtin; refine Kd.R_append_rows (Kd.int .u8) (w0 := w) w.heap.size rfl (.tmp 24) (.tmp 25) 22 5 (.int .u8 0) 1 rfl Try.underlying22 INFO.out rfl (by decide) (by decide) (.slice A3 m2 c3) l2 (be8 0) _ _ _ (fun _ => True) (fun _ => False) rfl rfl ?aO ?aR (fun _ _ h => h) (fun _ h => h.elim) ?aF ?aB ?aS ?aL ?_; (case aR => exact Cb3.out); (case aB => exact B3b.out); (case aF => exact (fun _ _ => trivial)); (case aO => exact R3b.out); (case aS => exact (below_size B3b.out)); (case aL => have := L3.out; rw [be8_length] at *; omega); intro v4 w5 ho hb hg hat; rw [← E3.out] at ho; have R4 := Aside0.mk ho; have B4 := Aside0.mk hb; obtain ⟨A4, c4, rfl, hcl, hC⟩ := Kd.R_reads ho; have CL4 := Aside0.mk hcl; clear ho hb hg hat hcl hC; rw [Q3.out] at R4 ⊢)
    | ((with_reducible refine (BGN.out _).mono ?_); rintro e w6 ⟨vv, rfl, hR, hb⟩; obtain ⟨Ab4, cb4, rfl, hcl, hC⟩ := Kd.R_reads hR; have Cb4 := Aside0.mk hC; have R4b := Aside0.mk (Kd.R_below R4.out hb); have B4b := Aside0.mk (below_step B4.out hb); clear hR hb hcl hC)
    | ((with_reducible refine gate_builtin (b := .append) (xs := #[.tmp 27, .tmp 30]) rfl ?_); at_builtin; refine Kd.R_append_rows (Kd.int .u8) (w0 := w) w.heap.size rfl (.tmp 27) (.tmp 30) 22 5 (.int .u8 0) 1 rfl Try.underlying22 INFO.out rfl (by decide) (by decide) (.slice A4 m3 c4) l3 (be8 n8) _ _ _ (fun _ => True) (fun _ => False) rfl rfl ?aO ?aR (fun _ _ h => h) (fun _ h => h.elim) ?aF ?aB ?aS ?aL ?_; (case aR => exact Cb4.out); (case aB => exact B4b.out); (case aF => exact (fun _ _ => trivial)); (case aO => exact R4b.out); (case aS => exact (below_size B4b.out)); (case aL => have := L4.out; rw [be8_length] at *; omega); intro v5 w7 ho hb hg hat; rw [← E4.out] at ho; have R5 := Aside0.mk ho; have B5 := Aside0.mk hb; obtain ⟨A5, c5, rfl, hcl, hC⟩ := Kd.R_reads ho; have CL5 := Aside0.mk hcl; clear ho hb hg hat hcl hC; rw [Q4.out] at R5 ⊢))
  have R5 := R5
  have HC5 := Aside0.mk (show Kd.C (Kd.int .u8) w7 A5 l4.length l4 from (by have h_ := R5.out; rw [← Q4.out] at h_; obtain ⟨A_, c_, e_, _, h2_⟩ := Kd.R_reads h_; cases e_; exact h2_))
  have FH := Aside0.mk (fun W => impl_firstHash.calls W)
  have FK := Aside0.mk (fun W => impl_rounds.calls W)
  have hz : ∀ W, (zeroValue 49).run Try.prog W = .ok (.agg (arr .u64 ShaA.z80)) W := fun W => by kernel_rfl
  rw [Q4.out] at HC5 CL5
  go_wp2_with (first
    | ((with_reducible refine (FH.out _).mono ?_); rintro e w8 ⟨rfl, hb⟩; have HC6 := Aside0.mk (Kd.C_below HC5.out hb); have B6 := Aside0.mk (below_step B5.out hb); clear hb)
    | ((with_reducible refine (FK.out _).mono ?_); rintro e w9 ⟨rfl, hb⟩; have HC7 := Aside0.mk (Kd.C_below HC6.out hb); have B7 := Aside0.mk (below_step B6.out hb); have S0 := Aside0.mk (((St.start w9).push rfl 47 .u64 z8).push (World.size_alloc ..) 49 .u64 ShaA.z80); clear hb)
    | (refine st_arr rfl 47 (.tmp 5) (.tmp 32) rfl w9.heap.size (xs := shaH) rfl rfl (S0.out.blk 0 rfl) (m := 8) (by kernel_rfl) rfl rfl ?_; intro w10 h1 h2 h4 h3; have S1 := Aside0.mk (S0.out.row 0 rfl h1 h2 h3); clear h1 h2 h3 h4)
    | (refine st_arr rfl 49 (.tmp 6) (.tmp 33) rfl (w9.heap.size + 1) (xs := shaK) rfl rfl (S1.out.blk 1 rfl) (m := 80) (by kernel_rfl) rfl rfl ?_; intro w11 h1 h2 h4 h3; have S2 := Aside0.mk (S1.out.row 1 rfl h1 h2 h3); clear h1 h2 h3 h4))
  obtain ⟨N, eN⟩ : ∃ x, x = m4 / 128 := ⟨_, rfl⟩
  have hN : m4 = 128 * N := by
    have h1 := padL_mod l
    rw [EP.out, Q4.out] at h1
    omega
  have HM := Aside0.mk hN
  clear hN
  have HNN := Aside0.mk eN
  clear eN
  have CL := Aside0.mk (show m4 ≤ c5 from CL5.out)
  have HK0 : Aside0 (shaK.length = 80) := ⟨rfl⟩
  have LHs := Aside0.mk (fun i => hsh_length shaK shaH l4 rfl i)
  simp only [Act.put]
  go_loopg [3] (N + 1) (fun gg v3 wr => ∃ (i : Nat) (A' : Option Addr) (m' c' : Nat), i ≤ N ∧ N - i ≤ gg ∧ v3 = .slice A' m' c' ∧ Aside0 (i < N → A' = A5.map fun x => x.add (128 * i)) ∧ Aside0 (m' + 128 * i = m4) ∧ Aside0 (c' + 128 * i = c5) ∧ Aside0 (St w9 [⟨47, .u64, hsh shaK shaH l4 i⟩, ⟨49, .u64, shaK⟩] wr))
  case atStart => exact ⟨0, A5, m4, c5, by omega, by omega, rfl, ⟨fun _ => by cases A5 <;> simp [Addr.add]⟩, ⟨by omega⟩, ⟨by omega⟩, S2⟩
  case round =>
    clear S0 S1 S2
    obtain ⟨i, A', m', c', hi, hg, rfl, HA, HM', HC', S⟩ := hrel
    by_cases hlt : i < N
    · have hm0 : (m' : Int) > 0 := by have := HM'.out; have := HM.out; omega
      have hm1 : (128 : Int) ≤ (m' : Int) := by have := HM'.out; have := HM.out; omega
      have hm2 : (128 : Int) ≤ (c' : Int) := by have := HM'.out; have := HC'.out; have := CL.out; omega
      have hm3 : (m' : Int) ≤ (c' : Int) := by have := HM'.out; have := HC'.out; have := CL.out; omega
      have hn1 : 128 ≤ m' := by omega
      have hn2 : 128 ≤ c' := by omega
      have hn3 : m' ≤ c' := by omega
      have EQ := Aside0.mk (show hsh shaK shaH l4 (i + 1) = blkH shaK (hsh shaK shaH l4 i) (blkL l4 i) from rfl)
      have HBL := Aside0.mk (show (blkL l4 i).length = 128 by
        unfold blkL
        rw [List.length_drop, List.length_take, Q4.out]; have := HM.out; omega)
      have LH := Aside0.mk (LHs.out i)
      have LN := Aside0.mk (LHs.out (i + 1))
      rw [EQ.out] at LN
      have HCB := Aside0.mk (fun W (hW : St w9 [⟨47, .u64, hsh shaK shaH l4 i⟩, ⟨49, .u64, shaK⟩] W) => show Kd.C (Kd.int .u8) W A' 128 (blkL l4 i) from by
        have h1 := Kd.C_below HC7.out hW.below
        have q4 := Q4.out; have q5 := HM.out; have q6 := CL.out
        rw [← q4] at h1
        have h2 := Kd.C_mid (lo := 128 * i) (hi := 128 * i + 128) (c := c5) h1 (by omega) (by omega) (by omega)
        rw [if_neg (by have := HM.out; have := CL.out; omega)] at h2
        have h3 := HBL.out
        unfold blkL at h3 ⊢
        rw [h3] at h2
        rw [HA.out hlt]
        rw [Nat.mul_comm 128 i] at h2 ⊢
        simpa [Nat.mul_one, show (Kd.int IntKind.u8).sz = 1 from rfl] using h2)
      generalize blkL l4 i = bl at *
      have HH := Aside0.mk (fun W (hW : St w9 [⟨47, .u64, hsh shaK shaH l4 i⟩, ⟨49, .u64, shaK⟩] W) => impl_hashed.calls A' c' (hsh shaK shaH l4 i) bl shaK (w9.heap.size + 1) W (HCB.out W hW) hn2 HBL.out LH.out rfl (hW.blk 1 rfl))
      clear HCB
      generalize hsh shaK shaH l4 i = hv at *
      have V0 := Aside0.mk S.out.drew
      go_wp2
      refine start_ (n := 5) (S := fun w' => St w9 [⟨47, .u64, hv⟩, ⟨49, .u64, shaK⟩] w') (ds := [4]) #[false, false, false, false, false] (by kernel_rfl) rfl rfl (V0.out) (fun hHeld => ?_)
      refine pure_ (i := 1) (N := some 40) (v := ?_) (a' := ?_) #[false, true, false, false, false] rfl rfl (by kernel_rfl) (fun _ _ _ h => h) (Or.inl ⟨by rfl, ?_⟩) ?_ ?_
      rotate_left
      · intro w'; go_simp; with_reducible rfl
      rotate_left
      · simp only [Act.put, OpenRow.s1, OpenRow.s2, OpenRow.s3, i64_w, i32_w]; rfl
      refine pure_ (i := 2) (N := some 41) (v := ?_) (a' := ?_) #[false, true, true, false, false] rfl rfl (by kernel_rfl) (fun _ _ _ h => h) (Or.inl ⟨by rfl, ?_⟩) ?_ ?_
      rotate_left
      · intro w'; go_simp; with_reducible rfl
      rotate_left
      · simp only [Act.put, OpenRow.s1, OpenRow.s2, OpenRow.s3, i64_w, i32_w]; rfl
      refine take_ (i := 0) (N := some 39) (v := ?_) (a' := ?_) #[true, true, true, false, false] rfl rfl (by kernel_rfl) (fun _ _ _ h => h) (Or.inl ⟨by rfl, ?_⟩) hHeld ?_ ?_
      rotate_left
      · intro w' s0
        refine (run_ld 47 (.tmp 5) (by rfl) w9.heap.size (by rfl) (s0.blk 0 rfl) Try.underlying47 (m := 8) (by kernel_rfl) LH.out).trans ?_; with_reducible rfl
      rotate_left
      · simp only [Act.put, OpenRow.s1, OpenRow.s2, OpenRow.s3, i64_w, i32_w]; rfl
      refine one_ (i := 3) (N := some 42) #[true, true, true, true, false] rfl rfl (by kernel_rfl) (by decide) (fun K hK => ?_)
      refine goes_ Try.func25 (by kernel_rfl) rfl #[.agg (arr .u64 hv), .slice A' 128 c', .pointer (some ⟨w9.heap.size + 1, 0, none⟩)] (by rfl) rfl rfl (by simp only [List.map_toArray, List.map_cons, List.map_nil] <;> rfl) ?_
      with_reducible refine (HH.out _ V0.out).mono ?_
      rintro e w12 ⟨rfl, hb⟩
      refine ⟨_, rfl, ?_⟩
      have V1 := Aside0.mk (V0.out.step hb)
      clear hb
      refine hK.out _ _ (V1.out) (fun hHeld => ?_)
      clear hK K
      refine norm_ (a' := ?_) ?_ ?_
      rotate_left
      · show Act.put _ (some 42) _ = _
        simp only [Act.put, OpenRow.s1, OpenRow.s2, OpenRow.s3, i64_w, i32_w]
        rfl
      refine last_ (i := 4) (N := none) #[true, true, true, true, true] rfl rfl (by kernel_rfl) (by decide) (fun K hK => ?_)
      refine st_step (by rfl) rfl 47 (.tmp 5) (.tmp 42) rfl w9.heap.size rfl rfl (V1.out.blk 0 rfl) (m := 8) (by kernel_rfl) LN.out (by rw [LH.out, LN.out]) ?_
      intro w13 h1 h2 h3 h4
      have V2 := Aside0.mk (V1.out.row 0 rfl h1 h2 h3)
      clear h1 h2 h3 h4
      refine hK.out _ _ ?_
      clear hK K
      refine done_ (by kernel_rfl) ?_

      (repeat go_step)
      go_roundg (N - (i + 1))
      case measure => omega
      case rel => exact ⟨i + 1, _, _, _, by omega, by omega, rfl, ⟨fun hl => by
        have e1 := HM'.out; have e2 := HC'.out; have e3 := HM.out; have e4 := CL.out
        rw [if_neg (by omega), HA.out hlt, Option.map_map]
        congr 1
        funext x
        by_cases h0 : i = 0
        · subst h0; simp [Function.comp, Addr.add]
        · simp only [Function.comp, Addr.add, Nat.mul_add, Nat.mul_one, if_neg (show ¬ 128 * i = 0 by omega), if_neg (show ¬ 128 * i + 128 = 0 by omega), Nat.add_assoc]⟩, ⟨by have := HM'.out; omega⟩, ⟨by have := HC'.out; omega⟩, by rw [EQ.out]; exact V2⟩
    · obtain rfl : i = N := by omega
      have hm0 : m' = 0 := by have := HM'.out; have := HM.out; omega
      subst hm0
      clear HA
      have ED := Aside0.mk (show digest l = outL (hsh shaK shaH l4 i) 8 by unfold digest; rw [EP.out, Q4.out, ← HNN.out])
      have LH := Aside0.mk (LHs.out i)
      generalize hsh shaK shaH l4 i = hv at *
      have BB := Aside0.mk (below_step B7.out S.out.below)
      go_wp2_with (first
        | ((with_reducible refine gate_dst (N := 43) rfl ?_); refine ld_arr rfl 47 (.tmp 5) rfl w9.heap.size rfl (S.out.blk 0 rfl) Try.underlying47 (m := 8) (by kernel_rfl) LH.out ?_))
      go_loopg [7, 9, 44] 9 (fun gg v7 _ v44 wr => ∃ (k : Nat) (vv : Value), k ≤ 8 ∧ 8 - k ≤ gg ∧ v44 = .int .i64 k ∧ vv = v7 ∧ Aside0 (Kd.R (Kd.int .u8) 5 wr w.heap.size (fun _ => True) vv (outL hv k)) ∧ Aside0 (Below w.heap.size w wr))
      case atStart => exact ⟨0, _, by omega, by omega, rfl, rfl, ⟨Kd.R_nil _ _ _ _ _⟩, BB⟩
      case round =>
        clear S BB
        obtain ⟨k, vv, hk, hg2, rfl, rfl, R, B⟩ := hrel
        by_cases hlt2 : k < 8
        · have hlti : (k : Int) < 8 := by omega
          have LO := Aside0.mk (outL_length hv k)
          have EQ := Aside0.mk (show outL hv (k + 1) = outL hv k ++ be8 (IntKind.i64.wrap (hv.getD k 0)) from rfl)
          have LO2 := Aside0.mk (show (outL hv k).length + 8 < 1000 by rw [LO.out]; omega)
          generalize outL hv k = xs at *
          generalize hx : hv.getD k 0 = x at *
          have HX : ∀ W, (Instr.index 47 (.agg (arr .u64 hv)) (.int .i64 (k : Int))).run Try.prog W = .ok (.int .u64 x) W := fun W => by
            rw [Go.Proofs.Ytlphppkhihabdaa.StIdx.run_index_arr 47 32 8 .u64 hv k Try.underlying47 .u64 Try.underlying32 (by kernel_rfl) hlt2 LH.out, hx]
          clear hx
          generalize hy : IntKind.i64.wrap x = y at *
          have HY := Aside0.mk hy
          have BG := Aside0.mk (big8_calls y)
          clear hy
          have hgoal : ∀ W, (convert 32 3 (.int .u64 x)).run Try.prog W = .ok (.int .i64 y) W := fun W => by rw [← HY.out]; kernel_rfl
          go_wp2_with (first
            | ((with_reducible refine (BG.out _).mono ?_); rintro e w14 ⟨v2, rfl, hR, hb⟩; obtain ⟨Ab, cb, rfl, hcl, hC⟩ := Kd.R_reads hR; have Cb := Aside0.mk hC; have R2 := Aside0.mk (Kd.R_below R.out hb); have B2 := Aside0.mk (below_step B.out hb); clear hR hb hcl hC)
            | ((with_reducible refine gate_builtin (b := .append) (xs := #[.tmp 47, .tmp 50]) rfl ?_); at_builtin; refine Kd.R_append_rows (Kd.int .u8) (w0 := w) w.heap.size rfl (.tmp 47) (.tmp 50) 22 5 (.int .u8 0) 1 rfl Try.underlying22 INFO.out rfl (by decide) (by decide) vv xs (be8 y) _ _ _ (fun _ => True) (fun _ => False) rfl rfl ?aO ?aR (fun _ _ h => h) (fun _ h => h.elim) ?aF ?aB ?aS ?aL ?_; (case aR => exact Cb.out); (case aB => exact B2.out); (case aF => exact (fun _ _ => trivial)); (case aO => exact R2.out); (case aS => exact (below_size B2.out)); (case aL => have := LO2.out; rw [be8_length]; omega); intro v3 w15 ho hb hg3 hat; rw [← EQ.out] at ho; have R3 := Aside0.mk ho; have B3 := Aside0.mk hb; clear ho hb hg3 hat))
          go_roundg (8 - (k + 1))
          case measure => omega
          case rel => exact ⟨k + 1, _, by omega, by omega, by go_num, rfl, R3, B3⟩
        · obtain rfl : k = 8 := by omega
          have hneg : ¬ ((8 : Nat) : Int) < 8 := by omega
          rw [← ED.out] at R
          go_wp2
          go_ret
          exact ⟨_, rfl, R.out, B.out⟩


/-! ### impl_Sha512: function 7 -/
def impl_Sha512.f (l0 : List Int) : Option (List Int × Int) := if (l0.length : Int) ≤ 65536 then some (digest l0, 0) else some ([], 2)
set_option maxHeartbeats 1000000 in
set_option maxRecDepth 100000 in
theorem impl_Sha512.calls (A0 : Option Addr) (c0 : Nat) (l0 : List Int) (r1 : List Int) (r2 : Int) (w : World) (hr0 : Kd.C (Kd.int .u8) w A0 l0.length l0) (hc0 : l0.length ≤ c0) (h : impl_Sha512.f l0 = some (r1, r2)) :
    Calls Try.prog 7 #[.slice A0 l0.length c0] w fun e w' => ∃ v0_ : Value, e = .returned (.tuple #[v0_, .int .i64 r2]) ∧ Kd.R (Kd.int .u8) 5 w' w.heap.size (fun _ => True) v0_ r1 ∧ Below w.heap.size w w' := by
  unfold impl_Sha512.f at h
  have HS := Aside0.mk (impl_isShort_byte.calls A0 c0 l0 (decide ((l0.length : Int) ≤ 65536)) w hr0 hc0 rfl)
  by_cases ho : (l0.length : Int) ≤ 65536
  · rw [if_pos ho] at h
    simp only [Option.some.injEq, Prod.mk.injEq] at h
    obtain ⟨rfl, rfl⟩ := h
    rw [decide_eq_true ho] at HS
    have HC := Aside0.mk (fun g W (hb : Below w.heap.size w W) (hg : W.cell? ⟨g, 0, none⟩ = some (.slice A0 l0.length c0)) => impl_sha512.calls g 1 [l0] (fun _ => A0) (fun _ => c0) W (by simp) (by simp; omega) (fun i hi => by
      obtain rfl : i = 0 := by simpa using hi
      exact ⟨hg, Kd.C_below hr0 hb, hc0⟩))
    rw [show [l0].flatten = l0 by simp, show [l0].length = 1 from rfl] at HC
    clear hr0 hc0 ho
    generalize digest l0 = r at *
    have B0 := Aside0.mk (Below.refl w.heap.size w)
    go_enter Try.func7, Try.ntmps7
    go_wp2_with (first
      | ((with_reducible refine (HS.out).mono ?_); rintro e w1 ⟨rfl, hb⟩; have B1 := Aside0.mk (drawn_below hb); clear hb))
    refine (HC.out w1.heap.size _ (below_alloc B1.out _) ?hc).mono ?_
    case hc => rw [blk_cell (blk_new w1 _)]; rfl
    rintro e w2 ⟨v2, rfl, hR, hb⟩
    have R2 := Aside0.mk (Kd.R_lower hR (below_size (below_alloc B1.out _)))
    have B2 := Aside0.mk (below_step (below_alloc B1.out _) hb)
    clear hb hR
    go_wp2
    go_ret2
    exact ⟨_, rfl, R2.out, B2.out⟩
  · rw [if_neg ho] at h
    simp only [Option.some.injEq, Prod.mk.injEq] at h
    obtain ⟨rfl, rfl⟩ := h
    rw [decide_eq_false ho] at HS
    clear hr0 hc0 ho
    go_enter Try.func7, Try.ntmps7
    go_wp2_with (first
      | ((with_reducible refine (HS.out).mono ?_); rintro e w1 ⟨rfl, hb⟩; have B1 := Aside0.mk (drawn_below hb); clear hb))
    go_ret2
    exact ⟨_, rfl, Kd.R_nil _ _ _ _ _, B1.out⟩


/-! ### laws_eqByteS: function 8 -/
def laws_eqByteS.l0 : Nat → List Int → List Int → Int → Option (Bool)
  | 0, _, _, _ => none
  | k + 1, x0, x1, x5 => if x5 < (x0.length : Int) then (if 0 ≤ x5 then (if x5 < (x1.length : Int) then (if (rd x0 x5) = (rd x1 x5) then (laws_eqByteS.l0 k x0 x1 (wrap64 (x5 + 1))) else (some false)) else (none)) else (none)) else (some true)
def laws_eqByteS.f (k : Nat) (l0 : List Int) (l1 : List Int) : Option (Bool) := if (l0.length : Int) = (l1.length : Int) then (laws_eqByteS.l0 k l0 l1 0) else (some false)
theorem laws_eqByteS.mono_l : ∀ k, (∀ y0 y1 y2, LeO (laws_eqByteS.l0 k y0 y1 y2) (laws_eqByteS.l0 (k + 1) y0 y1 y2))
  | 0 => fun _ _ _ r h => by simp [laws_eqByteS.l0] at h
  | k + 1 => by
    have ih0 := laws_eqByteS.mono_l k
    · intro y0 y1 y2
      unfold laws_eqByteS.l0
      repeat' first
      | (with_reducible exact ih0 _ _ _)
      | (with_reducible exact LeO.refl _)
      | (with_reducible exact LeO.none _)
      | (with_reducible refine LeO.ite ?_ ?_)
      | (with_reducible refine LeO.bind ?_ (fun _ => ?_))
      | exact ih0 _ _ _
      | exact LeO.none _
      | refine LeO.ite ?_ ?_
      | refine LeO.bind ?_ (fun _ => ?_)
theorem laws_eqByteS.mono : ∀ a0 a1 k, LeO (laws_eqByteS.f k a0 a1) (laws_eqByteS.f (k + 1) a0 a1) := by
  intro a0 a1 k
  have ih0 := laws_eqByteS.mono_l k
  unfold laws_eqByteS.f
  repeat' first
      | (with_reducible exact ih0 _ _ _)
      | (with_reducible exact LeO.refl _)
      | (with_reducible exact LeO.none _)
      | (with_reducible refine LeO.ite ?_ ?_)
      | (with_reducible refine LeO.bind ?_ (fun _ => ?_))
      | exact ih0 _ _ _
      | exact LeO.none _
      | refine LeO.ite ?_ ?_
      | refine LeO.bind ?_ (fun _ => ?_)
set_option maxHeartbeats 8000000 in
set_option maxRecDepth 100000 in
theorem laws_eqByteS.calls (k : Nat) (A0 : Option Addr) (c0 : Nat) (l0 : List Int) (A1 : Option Addr) (c1 : Nat) (l1 : List Int) (r : Bool) (w : World) (hr0 : Kd.C (Kd.int .u8) w A0 l0.length l0) (hc0 : l0.length ≤ c0) (hr1 : Kd.C (Kd.int .u8) w A1 l1.length l1) (hc1 : l1.length ≤ c1) (h : laws_eqByteS.f k l0 l1 = some r) :
    Calls Try.prog 8 #[.slice A0 l0.length c0, .slice A1 l1.length c1] w fun e w' => e = .returned (.bool r) ∧ Drawn0 w w' := by
  have HR0 := Aside0.mk hr0
  have HC0 := Aside0.mk hc0
  clear hr0 hc0
  have HR1 := Aside0.mk hr1
  have HC1 := Aside0.mk hc1
  clear hr1 hc1
  have H : (if (l0.length : Int) = (l1.length : Int) then (laws_eqByteS.l0 k l0 l1 0) else (some false)) = some r := h
  clear h
  by_cases c3 : (l0.length : Int) = (l1.length : Int)
  · rw [if_pos c3] at H
    have c3b0 : ((l0.length : Int) == (l1.length : Int)) = true := beq_iff_eq.mpr c3
    have c3b1 : ((l0.length : Int) != (l1.length : Int)) = false := bne_eq_false_iff_eq.mpr c3
    have c3b2 : (l0.length == l1.length) = true := by first | simpa using c3 | (simp at c3 ⊢; omega)
    clear c3
    have H' := Aside0.mk H
    clear H
    go_enter Try.func8, Try.ntmps8
    go_wp2
    repeat (go_quiet (fail); try go_wp2)
    go_loopg [5] k (fun kq v5 w' => ∃ (x5_1 : Int), v5 = .int .i64 x5_1 ∧ Aside0 (laws_eqByteS.l0 kq l0 l1 x5_1 = some r) ∧ Aside0 (kq ≤ k) ∧ Drawn0 w w')
    case atStart => exact ⟨(0), (by first | rfl | (simp; done) | (simp [*]; done)), H', ⟨Nat.le_refl _⟩, by repeat (first | exact Drawn0.refl _ | apply Drawn0.step)⟩
    case round =>
      clear H'
      try clear c1
      try clear p2
      try clear c3
      try clear c3b0
      try clear c3b1
      try clear c3b2
      obtain ⟨x5_1, rfl, HA, HK1, ⟨m1, rfl⟩⟩ := hrel
      cases gk with
      | zero => exact absurd HA.out (by simp [laws_eqByteS.l0])
      | succ k1 =>
        have H := HA.out
        clear HA
        simp only [laws_eqByteS.l0] at H
        by_cases c4 : x5_1 < (l0.length : Int)
        · rw [if_pos c4] at H
          have c4b0 : decide (x5_1 < (l0.length : Int)) = true := decide_eq_true c4
          clear c4
          by_cases c5 : 0 ≤ x5_1
          · rw [if_pos c5] at H
            have c5b0 : decide (0 ≤ x5_1) = true := decide_eq_true c5
            clear c5
            by_cases c6 : x5_1 < (l1.length : Int)
            · rw [if_pos c6] at H
              have c6b0 : decide (x5_1 < (l1.length : Int)) = true := decide_eq_true c6
              clear c6
              by_cases c7 : (rd l0 x5_1) = (rd l1 x5_1)
              · rw [if_pos c7] at H
                have c7b0 : ((rd l0 x5_1) == (rd l1 x5_1)) = true := beq_iff_eq.mpr c7
                have c7b1 : ((rd l0 x5_1) != (rd l1 x5_1)) = false := bne_eq_false_iff_eq.mpr c7
                clear c7
                have H' := Aside0.mk H
                clear H
                have p161 : 0 ≤ (x5_1 : Int) := of_decide_eq_true (by first | (with_reducible assumption) | assumption)
                have q161 : x5_1 < (l0.length : Int) := of_decide_eq_true (by first | (with_reducible assumption) | assumption)
                obtain ⟨ad161, e161, hx161_0⟩ := Kd.at_int HR0.out x5_1 p161 q161
                cases e161
                replace p161 := eq_true p161
                replace q161 := eq_true q161
                have p162 : 0 ≤ (x5_1 : Int) := of_decide_eq_true (by first | (with_reducible assumption) | assumption)
                have q162 : x5_1 < (l1.length : Int) := of_decide_eq_true (by first | (with_reducible assumption) | assumption)
                obtain ⟨ad162, e162, hx162_0⟩ := Kd.at_int HR1.out x5_1 p162 q162
                cases e162
                replace p162 := eq_true p162
                replace q162 := eq_true q162
                go_wp2
                repeat (go_quiet (fail); try go_wp2)
                go_roundg k1
                case measure => have := HK1.out; omega
                case rel => exact ⟨(wrap64 (x5_1 + 1)), (by first | rfl | (simp; done) | (simp [*]; done)), H', ⟨by have := HK1.out; omega⟩, by repeat (first | exact Drawn0.refl _ | apply Drawn0.step)⟩
              · rw [if_neg c7] at H
                have c7b0 : ((rd l0 x5_1) == (rd l1 x5_1)) = false := beq_eq_false_iff_ne.mpr c7
                have c7b1 : ((rd l0 x5_1) != (rd l1 x5_1)) = true := bne_iff_ne.mpr c7
                obtain rfl := Option.some.inj H
                have p161 : 0 ≤ (x5_1 : Int) := of_decide_eq_true (by first | (with_reducible assumption) | assumption)
                have q161 : x5_1 < (l0.length : Int) := of_decide_eq_true (by first | (with_reducible assumption) | assumption)
                obtain ⟨ad161, e161, hx161_0⟩ := Kd.at_int HR0.out x5_1 p161 q161
                cases e161
                replace p161 := eq_true p161
                replace q161 := eq_true q161
                have p162 : 0 ≤ (x5_1 : Int) := of_decide_eq_true (by first | (with_reducible assumption) | assumption)
                have q162 : x5_1 < (l1.length : Int) := of_decide_eq_true (by first | (with_reducible assumption) | assumption)
                obtain ⟨ad162, e162, hx162_0⟩ := Kd.at_int HR1.out x5_1 p162 q162
                cases e162
                replace p162 := eq_true p162
                replace q162 := eq_true q162
                go_wp2
                repeat (go_quiet (fail); try go_wp2)
                go_ret
                exact ⟨by first | rfl | (simp; done) | (simp [*]; done), by repeat (first | exact Drawn0.refl _ | apply Drawn0.step)⟩
            · rw [if_neg c6] at H
              exact absurd H (by simp)
          · rw [if_neg c5] at H
            exact absurd H (by simp)
        · rw [if_neg c4] at H
          have c4b0 : decide (x5_1 < (l0.length : Int)) = false := decide_eq_false c4
          clear c4
          obtain rfl := Option.some.inj H
          go_wp2
          repeat (go_quiet (fail); try go_wp2)
          go_ret
          exact ⟨by first | rfl | (simp; done) | (simp [*]; done), by repeat (first | exact Drawn0.refl _ | apply Drawn0.step)⟩
  · rw [if_neg c3] at H
    have c3b0 : ((l0.length : Int) == (l1.length : Int)) = false := beq_eq_false_iff_ne.mpr c3
    have c3b1 : ((l0.length : Int) != (l1.length : Int)) = true := bne_iff_ne.mpr c3
    have c3b2 : (l0.length == l1.length) = false := by first | simpa using c3 | (simp at c3 ⊢; omega)
    obtain rfl := Option.some.inj H
    go_enter Try.func8, Try.ntmps8
    go_wp2
    repeat (go_quiet (fail); try go_wp2)
    go_ret
    exact ⟨by first | rfl | (simp; done) | (simp [*]; done), by repeat (first | exact Drawn0.refl _ | apply Drawn0.step)⟩

/-! ### laws_markByteS: function 9 -/
def laws_markByteS.l0 : Nat → List Int → Int → Int → Option (Int × List Int)
  | 0, _, _, _ => none
  | k + 1, x0, x1, x5 => if x5 < (x0.length : Int) then (if 0 ≤ x5 then (laws_markByteS.l0 k (x0.set (x5 : Int).toNat ((x1) % 256)) (wrap64 (x1 + 1)) (wrap64 (x5 + 1))) else (none)) else (some (x1, x0))
def laws_markByteS.f (k : Nat) (l0 : List Int) (a1 : Int) : Option (Int × List Int) := laws_markByteS.l0 k l0 a1 0
theorem laws_markByteS.mono_l : ∀ k, (∀ y0 y1 y2, LeO (laws_markByteS.l0 k y0 y1 y2) (laws_markByteS.l0 (k + 1) y0 y1 y2))
  | 0 => fun _ _ _ r h => by simp [laws_markByteS.l0] at h
  | k + 1 => by
    have ih0 := laws_markByteS.mono_l k
    · intro y0 y1 y2
      unfold laws_markByteS.l0
      repeat' first
      | (with_reducible exact ih0 _ _ _)
      | (with_reducible exact LeO.refl _)
      | (with_reducible exact LeO.none _)
      | (with_reducible refine LeO.ite ?_ ?_)
      | (with_reducible refine LeO.bind ?_ (fun _ => ?_))
      | exact ih0 _ _ _
      | exact LeO.none _
      | refine LeO.ite ?_ ?_
      | refine LeO.bind ?_ (fun _ => ?_)
theorem laws_markByteS.mono : ∀ a0 a1 k, LeO (laws_markByteS.f k a0 a1) (laws_markByteS.f (k + 1) a0 a1) := by
  intro a0 a1 k
  have ih0 := laws_markByteS.mono_l k
  unfold laws_markByteS.f
  repeat' first
      | (with_reducible exact ih0 _ _ _)
      | (with_reducible exact LeO.refl _)
      | (with_reducible exact LeO.none _)
      | (with_reducible refine LeO.ite ?_ ?_)
      | (with_reducible refine LeO.bind ?_ (fun _ => ?_))
      | exact ih0 _ _ _
      | exact LeO.none _
      | refine LeO.ite ?_ ?_
      | refine LeO.bind ?_ (fun _ => ?_)
set_option maxHeartbeats 8000000 in
set_option maxRecDepth 100000 in
theorem laws_markByteS.calls (k : Nat) (P0_ : Nat → Prop) (u9000_ : Value) (l0 : List Int) (a1 : Int) (r1 : Int) (r2 : List Int) (w0 w : World) (hB : Below w0.heap.size w0 w) (ho0 : Kd.R (Kd.int .u8) 5 w w0.heap.size P0_ u9000_ l0) (h : laws_markByteS.f k l0 a1 = some (r1, r2)) :
    Calls Try.prog 9 #[u9000_, .int .i64 a1] w fun e w' => e = .returned (.int .i64 r1) ∧ Kd.R (Kd.int .u8) 5 w' w0.heap.size (fun k_ => (P0_ k_ ∨ w.heap.size ≤ k_)) u9000_ r2 ∧ Below w0.heap.size w0 w' ∧ Kept w w' (fun k_ => P0_ k_) := by
  have HO0 := Aside0.mk (show Kd.R (Kd.int .u8) 5 w w0.heap.size (fun k_ => (P0_ k_ ∨ w.heap.size ≤ k_)) u9000_ l0 from Kd.R_mono ho0 (fun k_ hk => (.inl hk)))
  have HK := Aside0.mk (Kept.refl w (fun k_ => P0_ k_))
  have HW0 := Aside0.mk hB.size
  have HB := Aside0.mk hB
  clear hB
  have H : (laws_markByteS.l0 k l0 a1 0) = some (r1, r2) := h
  clear h
  have H' := Aside0.mk H
  clear H
  go_enter Try.func9, Try.ntmps9
  go_wp2
  go_loopg [1, 5] k (fun kq v1 v5 w' => ∃ (x0_1 : List Int) (x1_1 : Int) (x5_1 : Int), v1 = .int .i64 x1_1 ∧ v5 = .int .i64 x5_1 ∧ Aside0 (laws_markByteS.l0 kq x0_1 x1_1 x5_1 = some (r1, r2)) ∧ Aside0 (kq ≤ k) ∧ Aside0 (Kd.R (Kd.int .u8) 5 w' w0.heap.size (fun k_ => (P0_ k_ ∨ w.heap.size ≤ k_)) u9000_ x0_1) ∧ Aside0 (Kept w w' (fun k_ => P0_ k_)) ∧ Aside0 (Below w0.heap.size w0 w'))
  case atStart => exact ⟨(l0), (a1), (0), (by first | rfl | (simp; done) | (simp [*]; done)), (by first | rfl | (simp; done) | (simp [*]; done)), H', ⟨Nat.le_refl _⟩, ⟨by (with_reducible repeat (first | apply Kd.R_alloc | apply Kd.R_drewN | apply Kd.R_drew)); exact HO0.out⟩, ⟨by repeat (first | (with_reducible first | exact HK.out | apply Kept.alloc | apply Kept.drewN | apply Kept.drew) | exact HK.out)⟩, ⟨by repeat (first | (with_reducible first | exact HB.out | apply below_alloc | apply pw_below_drewN | apply below_drew1) | exact HB.out)⟩⟩
  case round =>
    clear H'
    try clear p2
    obtain ⟨x0_1, x1_1, x5_1, rfl, rfl, HA, HK1, HO_0, HK, HB⟩ := hrel
    cases gk with
    | zero => exact absurd HA.out (by simp [laws_markByteS.l0])
    | succ k1 =>
      have H := HA.out
      clear HA
      simp only [laws_markByteS.l0] at H
      by_cases c3 : x5_1 < (x0_1.length : Int)
      · rw [if_pos c3] at H
        have c3b0 : decide (x5_1 < (x0_1.length : Int)) = true := decide_eq_true c3
        clear c3
        by_cases c4 : 0 ≤ x5_1
        · rw [if_pos c4] at H
          have c4b0 : decide (0 ≤ x5_1) = true := decide_eq_true c4
          clear c4
          obtain ⟨y163, hy163⟩ : ∃ y_ : List Int, y_ = (x0_1.set (x5_1 : Int).toNat ((x1_1) % 256)) := ⟨_, rfl⟩
          replace H : (laws_markByteS.l0 k1 y163 (wrap64 (x1_1 + 1)) (wrap64 (x5_1 + 1))) = some (r1, r2) := by first | (rw [hy163]; with_reducible exact H) | (have H2_ := (Option.bind_some _ _).symm.trans H; rw [hy163]; with_reducible exact H2_) | (have H2_ := (Option.bind_some _ _).symm.trans H; with_reducible exact H2_) | with_reducible exact H | (rw [hy163]; exact H) | exact H
          have Ny163 := Aside0.mk hy163
          clear hy163
          have H' := Aside0.mk H
          clear H
          obtain ⟨Ao6, co6, eo6⟩ := Kd.R_slice HO_0.out
          subst eo6
          have p5 : 0 ≤ (x5_1 : Int) := of_decide_eq_true (by first | (with_reducible assumption) | assumption)
          have q5 : (x5_1 : Int) < ((x0_1.length : Int) : Int) := of_decide_eq_true (by first | (with_reducible assumption) | assumption)
          obtain ⟨go5, co5, eo5, gb5, gl5, cl5, HG5⟩ := Kd.R_form HO_0.out (by omega)
          (first | cases eo5 | (injection eo5 with ea_ en_ ec_; (first | subst ea_ | (injection ea_ with ea_; subst ea_)); subst ec_; clear en_))
          have GB5 := Aside0.mk gb5
          have GG5 := Aside0.mk HG5
          clear gb5 gl5 HG5
          have HMgo5 := Aside0.mk (show (P0_ go5 ∨ w.heap.size ≤ go5) from (HO_0.out.1 _ rfl))
          obtain ⟨hx5_0, hf5_0⟩ := Kd.R_celln 0 HO_0.out (x5_1 : Int) p5 q5
          replace p5 := eq_true p5
          replace q5 := eq_true q5
          have HP7 := Kd.R_putg HO_0.out (x5_1 : Int) ((x1_1) % 256)
          go_wp2_with (first | ((with_reducible refine gate_store (t := 5) (p := 16) rfl ?_); refine store_event (t := 5) (p := 16) (v := ?vo_w8) (w1 := (wr.setCell ⟨go5, (x5_1 : Int).toNat, none⟩ (.int .u8 ((x1_1) % 256)))) ?hg ?ho ?hn ?hr ?_; (case ho => rfl); (case hg => rfl); (case hn => rfl); (case hr => first | (go_simp; done) | (go_simp; rfl)); intro w8 hw; have hg : wr.grownBy w8 (some go5) := (by rw [hw]; exact HP7.2); have hp_ : Kd.R (Kd.int .u8) 5 w8 w0.heap.size (fun k_ => (P0_ k_ ∨ w.heap.size ≤ k_)) (.slice (some ⟨go5, 0, none⟩) x0_1.length co6) y163 := (by rw [hw, Ny163.out]; exact HP7.1); clear HP7; have n0_ := Aside0.mk (hp_); have n1_ := Aside0.mk ((by rw [hw]; exact below_set (HB.out) GB5.out : Below w0.heap.size w0 w8)); have n2_ := Aside0.mk (Kept.of_grown (S := (fun k_ => P0_ k_)) hg (by repeat (first | (with_reducible first | exact HK.out | apply Kept.alloc | apply Kept.drewN | apply Kept.drew) | exact HK.out)) (fun k_ e_ => (HO_0.out.1 k_ e_))); clear HO_0; clear HB; clear HK; have HO_0 := n0_; have HB := n1_; have HK := n2_; clear n0_ n1_ n2_; clear hg hw hp_))
          go_roundg k1
          case measure => have := HK1.out; omega
          case rel => exact ⟨(y163), (wrap64 (x1_1 + 1)), (wrap64 (x5_1 + 1)), (by first | rfl | (simp; done) | (simp [*]; done)), (by first | rfl | (simp; done) | (simp [*]; done)), H', ⟨by have := HK1.out; omega⟩, ⟨by (with_reducible repeat (first | apply Kd.R_alloc | apply Kd.R_drewN | apply Kd.R_drew)); exact HO_0.out⟩, ⟨by repeat (first | (with_reducible first | exact HK.out | apply Kept.alloc | apply Kept.drewN | apply Kept.drew) | exact HK.out)⟩, ⟨by repeat (first | (with_reducible first | exact HB.out | apply below_alloc | apply pw_below_drewN | apply below_drew1) | exact HB.out)⟩⟩
        · rw [if_neg c4] at H
          exact absurd H (by simp)
      · rw [if_neg c3] at H
        have c3b0 : decide (x5_1 < (x0_1.length : Int)) = false := decide_eq_false c3
        clear c3
        simp only [Option.some.injEq, Prod.mk.injEq] at H
        obtain ⟨rfl, rfl⟩ := H
        obtain ⟨Ao9, co9, eo9⟩ := Kd.R_slice HO_0.out
        subst eo9
        go_wp2
        go_ret
        exact ⟨by first | rfl | (simp [errW_none, errW_some] <;> rfl) | (simp [*, errW_none, errW_some] <;> rfl), by (with_reducible repeat (first | apply Kd.R_alloc | apply Kd.R_drewN | apply Kd.R_drew)); exact HO_0.out, by repeat (first | (with_reducible first | exact HB.out | apply below_alloc | apply pw_below_drewN | apply below_drew1) | exact HB.out), by repeat (first | (with_reducible first | exact HK.out | apply Kept.alloc | apply Kept.drewN | apply Kept.drew) | exact HK.out)⟩

/-! ### laws_heldByteS: function 10 -/
def laws_heldByteS.l0 : Nat → List Int → Int → Int → Option (Int)
  | 0, _, _, _ => none
  | k + 1, x0, x1, x5 => if x5 < (x0.length : Int) then (if 0 ≤ x5 then (if (rd x0 x5) = ((x1) % 256) then (laws_heldByteS.l0 k x0 (wrap64 (x1 + 1)) (wrap64 (x5 + 1))) else (some (-1))) else (none)) else (some x1)
def laws_heldByteS.f (k : Nat) (l0 : List Int) (a1 : Int) : Option (Int) := laws_heldByteS.l0 k l0 a1 0
theorem laws_heldByteS.mono_l : ∀ k, (∀ y0 y1 y2, LeO (laws_heldByteS.l0 k y0 y1 y2) (laws_heldByteS.l0 (k + 1) y0 y1 y2))
  | 0 => fun _ _ _ r h => by simp [laws_heldByteS.l0] at h
  | k + 1 => by
    have ih0 := laws_heldByteS.mono_l k
    · intro y0 y1 y2
      unfold laws_heldByteS.l0
      repeat' first
      | (with_reducible exact ih0 _ _ _)
      | (with_reducible exact LeO.refl _)
      | (with_reducible exact LeO.none _)
      | (with_reducible refine LeO.ite ?_ ?_)
      | (with_reducible refine LeO.bind ?_ (fun _ => ?_))
      | exact ih0 _ _ _
      | exact LeO.none _
      | refine LeO.ite ?_ ?_
      | refine LeO.bind ?_ (fun _ => ?_)
theorem laws_heldByteS.mono : ∀ a0 a1 k, LeO (laws_heldByteS.f k a0 a1) (laws_heldByteS.f (k + 1) a0 a1) := by
  intro a0 a1 k
  have ih0 := laws_heldByteS.mono_l k
  unfold laws_heldByteS.f
  repeat' first
      | (with_reducible exact ih0 _ _ _)
      | (with_reducible exact LeO.refl _)
      | (with_reducible exact LeO.none _)
      | (with_reducible refine LeO.ite ?_ ?_)
      | (with_reducible refine LeO.bind ?_ (fun _ => ?_))
      | exact ih0 _ _ _
      | exact LeO.none _
      | refine LeO.ite ?_ ?_
      | refine LeO.bind ?_ (fun _ => ?_)
set_option maxHeartbeats 8000000 in
set_option maxRecDepth 100000 in
theorem laws_heldByteS.calls (k : Nat) (A0 : Option Addr) (c0 : Nat) (l0 : List Int) (a1 : Int) (r : Int) (w : World) (hr0 : Kd.C (Kd.int .u8) w A0 l0.length l0) (hc0 : l0.length ≤ c0) (h : laws_heldByteS.f k l0 a1 = some r) :
    Calls Try.prog 10 #[.slice A0 l0.length c0, .int .i64 a1] w fun e w' => e = .returned (.int .i64 r) ∧ Drawn0 w w' := by
  have HR0 := Aside0.mk hr0
  have HC0 := Aside0.mk hc0
  clear hr0 hc0
  have H : (laws_heldByteS.l0 k l0 a1 0) = some r := h
  clear h
  have H' := Aside0.mk H
  clear H
  go_enter Try.func10, Try.ntmps10
  go_wp2
  go_loopg [1, 5] k (fun kq v1 v5 w' => ∃ (x1_1 : Int) (x5_1 : Int), v1 = .int .i64 x1_1 ∧ v5 = .int .i64 x5_1 ∧ Aside0 (laws_heldByteS.l0 kq l0 x1_1 x5_1 = some r) ∧ Aside0 (kq ≤ k) ∧ Drawn0 w w')
  case atStart => exact ⟨(a1), (0), (by first | rfl | (simp; done) | (simp [*]; done)), (by first | rfl | (simp; done) | (simp [*]; done)), H', ⟨Nat.le_refl _⟩, by repeat (first | exact Drawn0.refl _ | apply Drawn0.step)⟩
  case round =>
    clear H'
    try clear c1
    try clear p2
    obtain ⟨x1_1, x5_1, rfl, rfl, HA, HK1, ⟨m1, rfl⟩⟩ := hrel
    cases gk with
    | zero => exact absurd HA.out (by simp [laws_heldByteS.l0])
    | succ k1 =>
      have H := HA.out
      clear HA
      simp only [laws_heldByteS.l0] at H
      by_cases c3 : x5_1 < (l0.length : Int)
      · rw [if_pos c3] at H
        have c3b0 : decide (x5_1 < (l0.length : Int)) = true := decide_eq_true c3
        clear c3
        by_cases c4 : 0 ≤ x5_1
        · rw [if_pos c4] at H
          have c4b0 : decide (0 ≤ x5_1) = true := decide_eq_true c4
          clear c4
          by_cases c5 : (rd l0 x5_1) = ((x1_1) % 256)
          · rw [if_pos c5] at H
            have c5b0 : ((rd l0 x5_1) == ((x1_1) % 256)) = true := beq_iff_eq.mpr c5
            have c5b1 : ((rd l0 x5_1) != ((x1_1) % 256)) = false := bne_eq_false_iff_eq.mpr c5
            clear c5
            have H' := Aside0.mk H
            clear H
            have p164 : 0 ≤ (x5_1 : Int) := of_decide_eq_true (by first | (with_reducible assumption) | assumption)
            have q164 : x5_1 < (l0.length : Int) := of_decide_eq_true (by first | (with_reducible assumption) | assumption)
            obtain ⟨ad164, e164, hx164_0⟩ := Kd.at_int HR0.out x5_1 p164 q164
            cases e164
            replace p164 := eq_true p164
            replace q164 := eq_true q164
            go_wp2
            go_roundg k1
            case measure => have := HK1.out; omega
            case rel => exact ⟨(wrap64 (x1_1 + 1)), (wrap64 (x5_1 + 1)), (by first | rfl | (simp; done) | (simp [*]; done)), (by first | rfl | (simp; done) | (simp [*]; done)), H', ⟨by have := HK1.out; omega⟩, by repeat (first | exact Drawn0.refl _ | apply Drawn0.step)⟩
          · rw [if_neg c5] at H
            have c5b0 : ((rd l0 x5_1) == ((x1_1) % 256)) = false := beq_eq_false_iff_ne.mpr c5
            have c5b1 : ((rd l0 x5_1) != ((x1_1) % 256)) = true := bne_iff_ne.mpr c5
            obtain rfl := Option.some.inj H
            have p164 : 0 ≤ (x5_1 : Int) := of_decide_eq_true (by first | (with_reducible assumption) | assumption)
            have q164 : x5_1 < (l0.length : Int) := of_decide_eq_true (by first | (with_reducible assumption) | assumption)
            obtain ⟨ad164, e164, hx164_0⟩ := Kd.at_int HR0.out x5_1 p164 q164
            cases e164
            replace p164 := eq_true p164
            replace q164 := eq_true q164
            go_wp2
            go_ret
            exact ⟨by first | rfl | (simp; done) | (simp [*]; done), by repeat (first | exact Drawn0.refl _ | apply Drawn0.step)⟩
        · rw [if_neg c4] at H
          exact absurd H (by simp)
      · rw [if_neg c3] at H
        have c3b0 : decide (x5_1 < (l0.length : Int)) = false := decide_eq_false c3
        clear c3
        obtain rfl := Option.some.inj H
        go_wp2
        go_ret
        exact ⟨by first | rfl | (simp; done) | (simp [*]; done), by repeat (first | exact Drawn0.refl _ | apply Drawn0.step)⟩

end Go.Proofs.Ytlphppkhihabdaa.XS
