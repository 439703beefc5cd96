-- Written by a program of this session (xp.py over the kit's printer, with functions proved by hand). Lean checks it.
import Derived.Test.YtlphppkhihabdaaXNx0
import Derived.Test.YtlphppkhihabdaaXNx5
import Derived.Test.YtlphppkhihabdaaXNx6
namespace Go.Proofs.Ytlphppkhihabdaa.XN
open Go.Proofs.Ytlphppkhihabdaa.Limb Go.Proofs.Ytlphppkhihabdaa.Arr Go.Proofs.Ytlphppkhihabdaa.FldA Go.Proofs.Ytlphppkhihabdaa.FldB Go.Proofs.Ytlphppkhihabdaa.FldC Go.Proofs.Ytlphppkhihabdaa.FldS Go.Proofs.Ytlphppkhihabdaa.St Go.Proofs.Ytlphppkhihabdaa.OpenS Go.Proofs.Ytlphppkhihabdaa.StOps Go.Proofs.Ytlphppkhihabdaa.StMid Go.Proofs.Ytlphppkhihabdaa.StIdx Go.Proofs.Ytlphppkhihabdaa.StPt Go.Proofs.Ytlphppkhihabdaa.StBd Go.Proofs.Ytlphppkhihabdaa.ShaA Go.Proofs.Ytlphppkhihabdaa.ShaB Go.Proofs.Ytlphppkhihabdaa.ShaS
open Go.RowKit Go.Proofs.YtlphppkhihabdaaW.PrintWords Go.Proofs.YtlphppkhihabdaaW.PrintLast Go.Proofs.YtlphppkhihabdaaW.PrintMore
attribute [local go_sem] max2_int min2_int max_two min_two max_three min_three max_four min_four   -- for this text's walks alone
set_option linter.unusedVariables false
set_option linter.unusedSimpArgs false

/-! ### impl_sha512: function 15 -/
theorem hsh_length (K h p : List Int) (hh : h.length = 8) (i : Nat) : (hsh K h p i).length = 8 := by
  induction i with
  | zero => exact hh
  | succ i ih => show (addH _ _ 8).length = 8; rw [addH_length, ih]
theorem outL_length (vs : List Int) (k : Nat) : (outL vs k).length = 8 * k := by
  induction k with
  | zero => rfl
  | succ k ih => show (outL vs k ++ be8 _).length = _; rw [List.length_append, ih, be8_length]; omega
theorem big8 (x : Int) : impl_big.f 20 x 8 = some (be8 x) := by
  kernel_rfl
theorem big8_calls (x : Int) (W : World) : Calls Try.prog 22 #[.int .i64 x, .int .i64 8] W fun e w' => ∃ v0_ : Value, e = .returned (v0_) ∧ Kd.R (Kd.int .u8) 5 w' W.heap.size (fun _ => True) v0_ (be8 x) ∧ Below W.heap.size W w' := impl_big.calls 20 x 8 (be8 x) W (big8 x)
set_option maxHeartbeats 40000000 in
set_option maxRecDepth 100000 in
theorem impl_sha512.calls (g c0 : Nat) (ls : List (List Int)) (As : Nat → Option Addr) (cs : Nat → Nat) (w : World) (hn : ls.length < 1000) (htot : ls.flatten.length < 1000000000)
    (hv : ∀ i, i < ls.length → w.cell? ⟨g, i, none⟩ = some (.slice (As i) (ls.getD i []).length (cs i)) ∧ Kd.C (Kd.int .u8) w (As i) (ls.getD i []).length (ls.getD i []) ∧ (ls.getD i []).length ≤ cs i) :
    Calls Try.prog 15 #[.slice (some ⟨g, 0, none⟩) ls.length c0] w fun e w' => ∃ v, e = .returned v ∧ Kd.R (Kd.int .u8) 5 w' w.heap.size (fun _ => True) v (digest ls.flatten) ∧ Below w.heap.size w w' := by
  have infoE : (Try.prog.info? 5).map (fun i => (i.zero, i.size, i.bytes)) = some (some (.int .u8 0), 1, 1) := by kernel_rfl
  have INFO := Aside0.mk infoE
  clear infoE
  have hd0 : (Kd.int .u8).M w w.heap.size (fun _ => False) 0 (Value.int .u8 0).cells.toList := by first | exact rfl | trivial | exact ⟨rfl, rfl⟩ | simp
  have HD0 := Aside0.mk hd0
  have CC := Aside0.mk (slices_Concat.calls g c0 ls As cs w hn (by omega) hv)
  clear hn hv hd0
  generalize ls.flatten = l at *
  have HL := Aside0.mk htot
  obtain ⟨l1, e1⟩ : ∃ x, x = l ++ [128] := ⟨_, rfl⟩
  obtain ⟨z, ez⟩ : ∃ x, x = zN l.length := ⟨_, rfl⟩
  obtain ⟨l2, e2⟩ : ∃ x, x = l1 ++ List.replicate z 0 := ⟨_, rfl⟩
  obtain ⟨l3, e3⟩ : ∃ x, x = l2 ++ be8 0 := ⟨_, rfl⟩
  obtain ⟨n, en⟩ : ∃ n, n = l.length := ⟨_, rfl⟩
  obtain ⟨l4, e4⟩ : ∃ x, x = l3 ++ be8 (8 * (n : Int)) := ⟨_, rfl⟩
  have EP := Aside0.mk (show padL l = l4 by rw [e4, e3, e2, e1, ez, en]; rfl)
  have q1 : l1.length = n + 1 := by rw [e1, en]; simp
  have q2 : l2.length = n + 1 + z := by rw [e2]; simp [q1]
  have q3 : l3.length = n + 1 + z + 8 := by rw [e3]; simp [q2, be8_length]
  have q4 : l4.length = n + 1 + z + 16 := by rw [e4]; simp [q3, be8_length]
  have hz : z < 128 := by rw [ez]; unfold zN; omega
  have L1 := Aside0.mk (show l.length + 1 < 1099511627776 by omega)
  have L2 := Aside0.mk (show l1.length + z < 1099511627776 by omega)
  have L3 := Aside0.mk (show l2.length + (be8 0).length < 1099511627776 by rw [be8_length]; omega)
  have L4 := Aside0.mk (show l3.length + (be8 (8 * (n : Int))).length < 1099511627776 by rw [be8_length]; omega)
  have E1 := Aside0.mk e1
  have E2 := Aside0.mk e2
  have E3 := Aside0.mk e3
  have E4 := Aside0.mk e4
  have HN := Aside0.mk en.symm
  obtain ⟨m1, em1⟩ : ∃ x, x = l1.length := ⟨_, rfl⟩
  obtain ⟨m2, em2⟩ : ∃ x, x = l2.length := ⟨_, rfl⟩
  obtain ⟨m3, em3⟩ : ∃ x, x = l3.length := ⟨_, rfl⟩
  obtain ⟨m4, em4⟩ : ∃ x, x = l4.length := ⟨_, rfl⟩
  have Q1 := Aside0.mk em1.symm
  have Q2 := Aside0.mk em2.symm
  have Q3 := Aside0.mk em3.symm
  have Q4 := Aside0.mk em4.symm
  have HM4 := Aside0.mk (show m4 = n + 1 + z + 16 by omega)
  have HZ := Aside0.mk (show z = (240 - (n + 1) % 128) % 128 by rw [ez, en]; rfl)
  have BG0 := Aside0.mk (big8_calls 0)
  have BGN := Aside0.mk (big8_calls (8 * (n : Int)))
  have hn9 : n < 1000000000 := by omega
  have hm1 : m1 = n + 1 := by omega
  clear e1 e2 e3 e4 ez q2 q3 q1 q4 htot en hz em1 em2 em3 em4
  obtain ⟨a1, ea1⟩ : ∃ x, x = m1 % 128 := ⟨_, rfl⟩
  obtain ⟨a2, ea2⟩ : ∃ x, x = 240 - a1 := ⟨_, rfl⟩
  have i1 : (m1 : Int) % 128 = (a1 : Int) := by omega
  have i2 : (240 : Int) - (a1 : Int) = (a2 : Int) := by omega
  have i3 : (a2 : Int) % 128 = (z : Int) := by have := HZ.out; omega
  have ha1 : a1 < 128 := by omega
  have ha2 : a2 ≤ 240 := by omega
  have HM1 := Aside0.mk hm1
  clear ea1 ea2 hm1
  obtain ⟨n8, en8⟩ : ∃ x : Int, x = 8 * (n : Int) := ⟨_, rfl⟩
  have w8 : wrap64 n8 = n8 := by unfold wrap64; omega
  rw [← en8] at BGN E4 L4
  have i8 : 8 * (n : Int) = n8 := en8.symm
  clear en8
  go_enter Try.func15, Try.ntmps15
  go_wp2_with (first
    | ((with_reducible refine (CC.out).mono ?_); rintro e w1 ⟨v1, rfl, hR, hb⟩; have R1 := Aside0.mk hR; have B1 := Aside0.mk hb; obtain ⟨A1, c1, rfl, hcl, hC⟩ := Kd.R_reads hR; clear hR hb hcl hC; rw [HN.out] at R1 ⊢)
    | ((with_reducible refine gate_builtin (b := .append) (xs := #[.tmp 14, .tmp 15]) rfl ?_); at_builtin; refine Kd.R_append (Kd.int .u8) (w0 := w) w.heap.size rfl (.tmp 14) (.tmp 15) 22 5 (.int .u8 0) 1 rfl Try.underlying22 INFO.out rfl (by decide) (by omega) (.slice A1 n c1) l 128 [.int .u8 128] (fun _ => True) (fun _ => False) rfl rfl ?aP (fun _ hk => hk.elim) ?aF ?aO ?aB ?aS ?aL ?_; (case aP => exact rfl); (case aB => exact (by repeat (first | exact B1.out | apply below_alloc | apply below_drew1))); (case aF => exact (fun _ _ => trivial)); (case aO => exact (by (with_reducible repeat (first | apply Kd.R_alloc | apply Kd.R_drewN | apply Kd.R_drew)); exact R1.out)); (case aS => exact (below_size (by repeat (first | exact B1.out | apply below_alloc | apply below_drew1)))); (case aL => have := L1.out; omega); intro v2 w2 ho hb hg hat; rw [← E1.out] at ho; have R2 := Aside0.mk ho; have B2 := Aside0.mk hb; obtain ⟨A2, c2, rfl, hcl, hC⟩ := Kd.R_reads ho; clear ho hb hg hat hcl hC; rw [Q1.out] at R2 ⊢)
    | ((with_reducible refine gate_builtin (b := .append) (xs := #[.tmp 17, .tmp 22]) rfl ?_); at_builtin; (try simp only [i1, i3]); refine Kd.R_append_zeros (Kd.int .u8) (w0 := w) w.heap.size rfl (.tmp 17) (.tmp 22) 22 3 5 (.int .u8 0) 1 rfl Try.underlying22 Try.underlying3 INFO.out rfl (by decide) (by decide) (.slice A2 m1 c2) l1 0 (z : Int) (fun _ => True) rfl rfl ?aZ ?aF ?aO ?a0 ?aB ?aS ?aL ?_; (case aZ => first | exact rfl | trivial | exact ⟨rfl, rfl⟩ | simp); (case aO => exact R2.out); (case aB => exact B2.out); (case aF => exact (fun _ _ => trivial)); (case aS => exact (below_size B2.out)); (case a0 => omega); (case aL => have := L2.out; rw [Int.toNat_natCast]; omega); intro v3 w3 ho hb hg hat; rw [Int.toNat_natCast, ← E2.out] at ho; have R3 := Aside0.mk ho; have B3 := Aside0.mk hb; obtain ⟨A3, c3, rfl, hcl, hC⟩ := Kd.R_reads ho; clear ho hb hg hat hcl hC; rw [Q2.out] at R3 ⊢)
    | ((with_reducible refine (BG0.out _).mono ?_); rintro e w4 ⟨vv, rfl, hR, hb⟩; obtain ⟨Ab3, cb3, rfl, hcl, hC⟩ := Kd.R_reads hR; have Cb3 := Aside0.mk hC; have R3b := Aside0.mk (Kd.R_below R3.out hb); have B3b := Aside0.mk (below_step B3.out hb); clear hR hb hcl hC)
    | ((with_reducible refine gate_builtin (b := .append) (xs := #[.tmp 24, .tmp 25]) rfl ?_); at_builtin; refine Kd.R_append_rows (Kd.int .u8) (w0 := w) w.heap.size rfl (.tmp 24) (.tmp 25) 22 5 (.int .u8 0) 1 rfl Try.underlying22 INFO.out rfl (by decide) (by decide) (.slice A3 m2 c3) l2 (be8 0) _ _ _ (fun _ => True) (fun _ => False) rfl rfl ?aO ?aR (fun _ _ h => h) (fun _ h => h.elim) ?aF ?aB ?aS ?aL ?_; (case aR => exact Cb3.out); (case aB => exact B3b.out); (case aF => exact (fun _ _ => trivial)); (case aO => exact R3b.out); (case aS => exact (below_size B3b.out)); (case aL => have := L3.out; rw [be8_length] at *; omega); intro v4 w5 ho hb hg hat; rw [← E3.out] at ho; have R4 := Aside0.mk ho; have B4 := Aside0.mk hb; obtain ⟨A4, c4, rfl, hcl, hC⟩ := Kd.R_reads ho; have CL4 := Aside0.mk hcl; clear ho hb hg hat hcl hC; rw [Q3.out] at R4 ⊢)
    | ((with_reducible refine (BGN.out _).mono ?_); rintro e w6 ⟨vv, rfl, hR, hb⟩; obtain ⟨Ab4, cb4, rfl, hcl, hC⟩ := Kd.R_reads hR; have Cb4 := Aside0.mk hC; have R4b := Aside0.mk (Kd.R_below R4.out hb); have B4b := Aside0.mk (below_step B4.out hb); clear hR hb hcl hC)
    | ((with_reducible refine gate_builtin (b := .append) (xs := #[.tmp 27, .tmp 30]) rfl ?_); at_builtin; refine Kd.R_append_rows (Kd.int .u8) (w0 := w) w.heap.size rfl (.tmp 27) (.tmp 30) 22 5 (.int .u8 0) 1 rfl Try.underlying22 INFO.out rfl (by decide) (by decide) (.slice A4 m3 c4) l3 (be8 n8) _ _ _ (fun _ => True) (fun _ => False) rfl rfl ?aO ?aR (fun _ _ h => h) (fun _ h => h.elim) ?aF ?aB ?aS ?aL ?_; (case aR => exact Cb4.out); (case aB => exact B4b.out); (case aF => exact (fun _ _ => trivial)); (case aO => exact R4b.out); (case aS => exact (below_size B4b.out)); (case aL => have := L4.out; rw [be8_length] at *; omega); intro v5 w7 ho hb hg hat; rw [← E4.out] at ho; have R5 := Aside0.mk ho; have B5 := Aside0.mk hb; obtain ⟨A5, c5, rfl, hcl, hC⟩ := Kd.R_reads ho; have CL5 := Aside0.mk hcl; clear ho hb hg hat hcl hC; rw [Q4.out] at R5 ⊢))
  have R5 := R5
  have HC5 := Aside0.mk (show Kd.C (Kd.int .u8) w7 A5 l4.length l4 from (by have h_ := R5.out; rw [← Q4.out] at h_; obtain ⟨A_, c_, e_, _, h2_⟩ := Kd.R_reads h_; cases e_; exact h2_))
  have FH := Aside0.mk (fun W => impl_firstHash.calls W)
  have FK := Aside0.mk (fun W => impl_rounds.calls W)
  have hz : ∀ W, (zeroValue 49).run Try.prog W = .ok (.agg (arr .u64 ShaA.z80)) W := fun W => by kernel_rfl
  rw [Q4.out] at HC5 CL5
  go_wp2_with (first
    | ((with_reducible refine (FH.out _).mono ?_); rintro e w8 ⟨rfl, hb⟩; have HC6 := Aside0.mk (Kd.C_below HC5.out hb); have B6 := Aside0.mk (below_step B5.out hb); clear hb)
    | ((with_reducible refine (FK.out _).mono ?_); rintro e w9 ⟨rfl, hb⟩; have HC7 := Aside0.mk (Kd.C_below HC6.out hb); have B7 := Aside0.mk (below_step B6.out hb); have S0 := Aside0.mk (((St.start w9).push rfl 47 .u64 z8).push (World.size_alloc ..) 49 .u64 ShaA.z80); clear hb)
    | (refine st_arr rfl 47 (.tmp 5) (.tmp 32) rfl w9.heap.size (xs := shaH) rfl rfl (S0.out.blk 0 rfl) (m := 8) (by kernel_rfl) rfl rfl ?_; intro w10 h1 h2 h4 h3; have S1 := Aside0.mk (S0.out.row 0 rfl h1 h2 h3); clear h1 h2 h3 h4)
    | (refine st_arr rfl 49 (.tmp 6) (.tmp 33) rfl (w9.heap.size + 1) (xs := shaK) rfl rfl (S1.out.blk 1 rfl) (m := 80) (by kernel_rfl) rfl rfl ?_; intro w11 h1 h2 h4 h3; have S2 := Aside0.mk (S1.out.row 1 rfl h1 h2 h3); clear h1 h2 h3 h4))
  obtain ⟨N, eN⟩ : ∃ x, x = m4 / 128 := ⟨_, rfl⟩
  have hN : m4 = 128 * N := by
    have h1 := padL_mod l
    rw [EP.out, Q4.out] at h1
    omega
  have HM := Aside0.mk hN
  clear hN
  have HNN := Aside0.mk eN
  clear eN
  have CL := Aside0.mk (show m4 ≤ c5 from CL5.out)
  have HK0 : Aside0 (shaK.length = 80) := ⟨rfl⟩
  have LHs := Aside0.mk (fun i => hsh_length shaK shaH l4 rfl i)
  simp only [Act.put]
  go_loopg [3] (N + 1) (fun gg v3 wr => ∃ (i : Nat) (A' : Option Addr) (m' c' : Nat), i ≤ N ∧ N - i ≤ gg ∧ v3 = .slice A' m' c' ∧ Aside0 (i < N → A' = A5.map fun x => x.add (128 * i)) ∧ Aside0 (m' + 128 * i = m4) ∧ Aside0 (c' + 128 * i = c5) ∧ Aside0 (St w9 [⟨47, .u64, hsh shaK shaH l4 i⟩, ⟨49, .u64, shaK⟩] wr))
  case atStart => exact ⟨0, A5, m4, c5, by omega, by omega, rfl, ⟨fun _ => by cases A5 <;> simp [Addr.add]⟩, ⟨by omega⟩, ⟨by omega⟩, S2⟩
  case round =>
    clear S0 S1 S2
    obtain ⟨i, A', m', c', hi, hg, rfl, HA, HM', HC', S⟩ := hrel
    by_cases hlt : i < N
    · have hm0 : (m' : Int) > 0 := by have := HM'.out; have := HM.out; omega
      have hm1 : (128 : Int) ≤ (m' : Int) := by have := HM'.out; have := HM.out; omega
      have hm2 : (128 : Int) ≤ (c' : Int) := by have := HM'.out; have := HC'.out; have := CL.out; omega
      have hm3 : (m' : Int) ≤ (c' : Int) := by have := HM'.out; have := HC'.out; have := CL.out; omega
      have hn1 : 128 ≤ m' := by omega
      have hn2 : 128 ≤ c' := by omega
      have hn3 : m' ≤ c' := by omega
      have EQ := Aside0.mk (show hsh shaK shaH l4 (i + 1) = blkH shaK (hsh shaK shaH l4 i) (blkL l4 i) from rfl)
      have HBL := Aside0.mk (show (blkL l4 i).length = 128 by
        unfold blkL
        rw [List.length_drop, List.length_take, Q4.out]; have := HM.out; omega)
      have LH := Aside0.mk (LHs.out i)
      have LN := Aside0.mk (LHs.out (i + 1))
      rw [EQ.out] at LN
      have HCB := Aside0.mk (fun W (hW : St w9 [⟨47, .u64, hsh shaK shaH l4 i⟩, ⟨49, .u64, shaK⟩] W) => show Kd.C (Kd.int .u8) W A' 128 (blkL l4 i) from by
        have h1 := Kd.C_below HC7.out hW.below
        have q4 := Q4.out; have q5 := HM.out; have q6 := CL.out
        rw [← q4] at h1
        have h2 := Kd.C_mid (lo := 128 * i) (hi := 128 * i + 128) (c := c5) h1 (by omega) (by omega) (by omega)
        rw [if_neg (by have := HM.out; have := CL.out; omega)] at h2
        have h3 := HBL.out
        unfold blkL at h3 ⊢
        rw [h3] at h2
        rw [HA.out hlt]
        rw [Nat.mul_comm 128 i] at h2 ⊢
        simpa [Nat.mul_one, show (Kd.int IntKind.u8).sz = 1 from rfl] using h2)
      generalize blkL l4 i = bl at *
      have HH := Aside0.mk (fun W (hW : St w9 [⟨47, .u64, hsh shaK shaH l4 i⟩, ⟨49, .u64, shaK⟩] W) => impl_hashed.calls A' c' (hsh shaK shaH l4 i) bl shaK (w9.heap.size + 1) W (HCB.out W hW) hn2 HBL.out LH.out rfl (hW.blk 1 rfl))
      clear HCB
      generalize hsh shaK shaH l4 i = hv at *
      have V0 := Aside0.mk S.out.drew
      go_wp2
      refine start_ (n := 5) (S := fun w' => St w9 [⟨47, .u64, hv⟩, ⟨49, .u64, shaK⟩] w') (ds := [4]) #[false, false, false, false, false] (by kernel_rfl) rfl rfl (V0.out) (fun hHeld => ?_)
      refine pure_ (i := 1) (N := some 40) (v := ?_) (a' := ?_) #[false, true, false, false, false] rfl rfl (by kernel_rfl) (fun _ _ _ h => h) (Or.inl ⟨by rfl, ?_⟩) ?_ ?_
      rotate_left
      · intro w'; go_simp; with_reducible rfl
      rotate_left
      · simp only [Act.put, OpenRow.s1, OpenRow.s2, OpenRow.s3, i64_w, i32_w]; rfl
      refine pure_ (i := 2) (N := some 41) (v := ?_) (a' := ?_) #[false, true, true, false, false] rfl rfl (by kernel_rfl) (fun _ _ _ h => h) (Or.inl ⟨by rfl, ?_⟩) ?_ ?_
      rotate_left
      · intro w'; go_simp; with_reducible rfl
      rotate_left
      · simp only [Act.put, OpenRow.s1, OpenRow.s2, OpenRow.s3, i64_w, i32_w]; rfl
      refine take_ (i := 0) (N := some 39) (v := ?_) (a' := ?_) #[true, true, true, false, false] rfl rfl (by kernel_rfl) (fun _ _ _ h => h) (Or.inl ⟨by rfl, ?_⟩) hHeld ?_ ?_
      rotate_left
      · intro w' s0
        refine (run_ld 47 (.tmp 5) (by rfl) w9.heap.size (by rfl) (s0.blk 0 rfl) Try.underlying47 (m := 8) (by kernel_rfl) LH.out).trans ?_; with_reducible rfl
      rotate_left
      · simp only [Act.put, OpenRow.s1, OpenRow.s2, OpenRow.s3, i64_w, i32_w]; rfl
      refine one_ (i := 3) (N := some 42) #[true, true, true, true, false] rfl rfl (by kernel_rfl) (by decide) (fun K hK => ?_)
      refine goes_ Try.func25 (by kernel_rfl) rfl #[.agg (arr .u64 hv), .slice A' 128 c', .pointer (some ⟨w9.heap.size + 1, 0, none⟩)] (by rfl) rfl rfl (by simp only [List.map_toArray, List.map_cons, List.map_nil] <;> rfl) ?_
      with_reducible refine (HH.out _ V0.out).mono ?_
      rintro e w12 ⟨rfl, hb⟩
      refine ⟨_, rfl, ?_⟩
      have V1 := Aside0.mk (V0.out.step hb)
      clear hb
      refine hK.out _ _ (V1.out) (fun hHeld => ?_)
      clear hK K
      refine norm_ (a' := ?_) ?_ ?_
      rotate_left
      · show Act.put _ (some 42) _ = _
        simp only [Act.put, OpenRow.s1, OpenRow.s2, OpenRow.s3, i64_w, i32_w]
        rfl
      refine last_ (i := 4) (N := none) #[true, true, true, true, true] rfl rfl (by kernel_rfl) (by decide) (fun K hK => ?_)
      refine st_step (by rfl) rfl 47 (.tmp 5) (.tmp 42) rfl w9.heap.size rfl rfl (V1.out.blk 0 rfl) (m := 8) (by kernel_rfl) LN.out (by rw [LH.out, LN.out]) ?_
      intro w13 h1 h2 h3 h4
      have V2 := Aside0.mk (V1.out.row 0 rfl h1 h2 h3)
      clear h1 h2 h3 h4
      refine hK.out _ _ ?_
      clear hK K
      refine done_ (by kernel_rfl) ?_

      (repeat go_step)
      go_roundg (N - (i + 1))
      case measure => omega
      case rel => exact ⟨i + 1, _, _, _, by omega, by omega, rfl, ⟨fun hl => by
        have e1 := HM'.out; have e2 := HC'.out; have e3 := HM.out; have e4 := CL.out
        rw [if_neg (by omega), HA.out hlt, Option.map_map]
        congr 1
        funext x
        by_cases h0 : i = 0
        · subst h0; simp [Function.comp, Addr.add]
        · simp only [Function.comp, Addr.add, Nat.mul_add, Nat.mul_one, if_neg (show ¬ 128 * i = 0 by omega), if_neg (show ¬ 128 * i + 128 = 0 by omega), Nat.add_assoc]⟩, ⟨by have := HM'.out; omega⟩, ⟨by have := HC'.out; omega⟩, by rw [EQ.out]; exact V2⟩
    · obtain rfl : i = N := by omega
      have hm0 : m' = 0 := by have := HM'.out; have := HM.out; omega
      subst hm0
      clear HA
      have ED := Aside0.mk (show digest l = outL (hsh shaK shaH l4 i) 8 by unfold digest; rw [EP.out, Q4.out, ← HNN.out])
      have LH := Aside0.mk (LHs.out i)
      generalize hsh shaK shaH l4 i = hv at *
      have BB := Aside0.mk (below_step B7.out S.out.below)
      go_wp2_with (first
        | ((with_reducible refine gate_dst (N := 43) rfl ?_); refine ld_arr rfl 47 (.tmp 5) rfl w9.heap.size rfl (S.out.blk 0 rfl) Try.underlying47 (m := 8) (by kernel_rfl) LH.out ?_))
      go_loopg [7, 9, 44] 9 (fun gg v7 _ v44 wr => ∃ (k : Nat) (vv : Value), k ≤ 8 ∧ 8 - k ≤ gg ∧ v44 = .int .i64 k ∧ vv = v7 ∧ Aside0 (Kd.R (Kd.int .u8) 5 wr w.heap.size (fun _ => True) vv (outL hv k)) ∧ Aside0 (Below w.heap.size w wr))
      case atStart => exact ⟨0, _, by omega, by omega, rfl, rfl, ⟨Kd.R_nil _ _ _ _ _⟩, BB⟩
      case round =>
        clear S BB
        obtain ⟨k, vv, hk, hg2, rfl, rfl, R, B⟩ := hrel
        by_cases hlt2 : k < 8
        · have hlti : (k : Int) < 8 := by omega
          have LO := Aside0.mk (outL_length hv k)
          have EQ := Aside0.mk (show outL hv (k + 1) = outL hv k ++ be8 (IntKind.i64.wrap (hv.getD k 0)) from rfl)
          have LO2 := Aside0.mk (show (outL hv k).length + 8 < 1000 by rw [LO.out]; omega)
          generalize outL hv k = xs at *
          generalize hx : hv.getD k 0 = x at *
          have HX : ∀ W, (Instr.index 47 (.agg (arr .u64 hv)) (.int .i64 (k : Int))).run Try.prog W = .ok (.int .u64 x) W := fun W => by
            rw [Go.Proofs.Ytlphppkhihabdaa.StIdx.run_index_arr 47 32 8 .u64 hv k Try.underlying47 .u64 Try.underlying32 (by kernel_rfl) hlt2 LH.out, hx]
          clear hx
          generalize hy : IntKind.i64.wrap x = y at *
          have HY := Aside0.mk hy
          have BG := Aside0.mk (big8_calls y)
          clear hy
          have hgoal : ∀ W, (convert 32 3 (.int .u64 x)).run Try.prog W = .ok (.int .i64 y) W := fun W => by rw [← HY.out]; kernel_rfl
          go_wp2_with (first
            | ((with_reducible refine (BG.out _).mono ?_); rintro e w14 ⟨v2, rfl, hR, hb⟩; obtain ⟨Ab, cb, rfl, hcl, hC⟩ := Kd.R_reads hR; have Cb := Aside0.mk hC; have R2 := Aside0.mk (Kd.R_below R.out hb); have B2 := Aside0.mk (below_step B.out hb); clear hR hb hcl hC)
            | ((with_reducible refine gate_builtin (b := .append) (xs := #[.tmp 47, .tmp 50]) rfl ?_); at_builtin; refine Kd.R_append_rows (Kd.int .u8) (w0 := w) w.heap.size rfl (.tmp 47) (.tmp 50) 22 5 (.int .u8 0) 1 rfl Try.underlying22 INFO.out rfl (by decide) (by decide) vv xs (be8 y) _ _ _ (fun _ => True) (fun _ => False) rfl rfl ?aO ?aR (fun _ _ h => h) (fun _ h => h.elim) ?aF ?aB ?aS ?aL ?_; (case aR => exact Cb.out); (case aB => exact B2.out); (case aF => exact (fun _ _ => trivial)); (case aO => exact R2.out); (case aS => exact (below_size B2.out)); (case aL => have := LO2.out; rw [be8_length]; omega); intro v3 w15 ho hb hg3 hat; rw [← EQ.out] at ho; have R3 := Aside0.mk ho; have B3 := Aside0.mk hb; clear ho hb hg3 hat))
          go_roundg (8 - (k + 1))
          case measure => omega
          case rel => exact ⟨k + 1, _, by omega, by omega, by go_num, rfl, R3, B3⟩
        · obtain rfl : k = 8 := by omega
          have hneg : ¬ ((8 : Nat) : Int) < 8 := by omega
          rw [← ED.out] at R
          go_wp2
          go_ret
          exact ⟨_, rfl, R.out, B.out⟩


/-! ### impl_Sha512: function 7 -/
def impl_Sha512.f (l0 : List Int) : Option (List Int × Int) := if (l0.length : Int) ≤ 65536 then some (digest l0, 0) else some ([], 2)
set_option maxHeartbeats 1000000 in
set_option maxRecDepth 100000 in
theorem impl_Sha512.calls (A0 : Option Addr) (c0 : Nat) (l0 : List Int) (r1 : List Int) (r2 : Int) (w : World) (hr0 : Kd.C (Kd.int .u8) w A0 l0.length l0) (hc0 : l0.length ≤ c0) (h : impl_Sha512.f l0 = some (r1, r2)) :
    Calls Try.prog 7 #[.slice A0 l0.length c0] w fun e w' => ∃ v0_ : Value, e = .returned (.tuple #[v0_, .int .i64 r2]) ∧ Kd.R (Kd.int .u8) 5 w' w.heap.size (fun _ => True) v0_ r1 ∧ Below w.heap.size w w' := by
  unfold impl_Sha512.f at h
  have HS := Aside0.mk (impl_isShort_byte.calls A0 c0 l0 (decide ((l0.length : Int) ≤ 65536)) w hr0 hc0 rfl)
  by_cases ho : (l0.length : Int) ≤ 65536
  · rw [if_pos ho] at h
    simp only [Option.some.injEq, Prod.mk.injEq] at h
    obtain ⟨rfl, rfl⟩ := h
    rw [decide_eq_true ho] at HS
    have HC := Aside0.mk (fun g W (hb : Below w.heap.size w W) (hg : W.cell? ⟨g, 0, none⟩ = some (.slice A0 l0.length c0)) => impl_sha512.calls g 1 [l0] (fun _ => A0) (fun _ => c0) W (by simp) (by simp; omega) (fun i hi => by
      obtain rfl : i = 0 := by simpa using hi
      exact ⟨hg, Kd.C_below hr0 hb, hc0⟩))
    rw [show [l0].flatten = l0 by simp, show [l0].length = 1 from rfl] at HC
    clear hr0 hc0 ho
    generalize digest l0 = r at *
    have B0 := Aside0.mk (Below.refl w.heap.size w)
    go_enter Try.func7, Try.ntmps7
    go_wp2_with (first
      | ((with_reducible refine (HS.out).mono ?_); rintro e w1 ⟨rfl, hb⟩; have B1 := Aside0.mk (drawn_below hb); clear hb))
    refine (HC.out w1.heap.size _ (below_alloc B1.out _) ?hc).mono ?_
    case hc => rw [blk_cell (blk_new w1 _)]; rfl
    rintro e w2 ⟨v2, rfl, hR, hb⟩
    have R2 := Aside0.mk (Kd.R_lower hR (below_size (below_alloc B1.out _)))
    have B2 := Aside0.mk (below_step (below_alloc B1.out _) hb)
    clear hb hR
    go_wp2
    go_ret2
    exact ⟨_, rfl, R2.out, B2.out⟩
  · rw [if_neg ho] at h
    simp only [Option.some.injEq, Prod.mk.injEq] at h
    obtain ⟨rfl, rfl⟩ := h
    rw [decide_eq_false ho] at HS
    clear hr0 hc0 ho
    go_enter Try.func7, Try.ntmps7
    go_wp2_with (first
      | ((with_reducible refine (HS.out).mono ?_); rintro e w1 ⟨rfl, hb⟩; have B1 := Aside0.mk (drawn_below hb); clear hb))
    go_ret2
    exact ⟨_, rfl, Kd.R_nil _ _ _ _ _, B1.out⟩


/-! ### bits_Add64: function 38 -/
theorem add64_calls (x y c : Int) (hx : 0 ≤ x) (hy : 0 ≤ y) (hc0 : 0 ≤ c) (hc : c ≤ 1) (w : World) :
   (callFunc 38 #[.int .u64 x, .int .u64 y, .int .u64 c]).run Try.prog w = .ok (.value (.tuple #[.int .u64 ((x + y + c) % 18446744073709551616), .int .u64 ((x + y + c) / 18446744073709551616)])) w := by
  rw [run_callFunc_extern (fn := Try.f38) (e := add64Entry) Try.func38 (by rfl) (by rfl) (by kernel_rfl) (by kernel_rfl), run_add64 x y c hx hy hc0 hc]
  rfl


/-! ### impl_number_plus: function 32 -/
def plusS (xs ys : List Int) : Nat → List Int × Int
  | 0 => (xs, 0)
  | k + 1 => ((plusS xs ys k).1.set k (((plusS xs ys k).1.getD k 0 + ys.getD k 0 + (plusS xs ys k).2) % 18446744073709551616), ((plusS xs ys k).1.getD k 0 + ys.getD k 0 + (plusS xs ys k).2) / 18446744073709551616)
theorem plusS_ok (xs ys : List Int) (hx : Ok P64 xs) (hy : Ok P64 ys) (lx : xs.length = 4) (ly : ys.length = 4) (k : Nat) (hk : k ≤ 4) : Ok P64 (plusS xs ys k).1 ∧ (plusS xs ys k).1.length = 4 ∧ 0 ≤ (plusS xs ys k).2 ∧ (plusS xs ys k).2 ≤ 1 := by
  induction k with
  | zero => exact ⟨hx, lx, by simp [plusS], by simp [plusS]⟩
  | succ k ih =>
    obtain ⟨h1, h2, h3, h4⟩ := ih (by omega)
    have a := getD_range h1 k (by omega)
    have b := getD_range hy k (by omega)
    simp only [P64] at a b
    refine ⟨ok_set h1 k _ (by omega) (by simp only [P64]; omega), by simp [plusS, h2], by simp only [plusS]; omega, by simp only [plusS]; omega⟩
theorem plusS_val (x y : Nat) : (plusS (num x) (num y) 4).1 = num (x + y) ∧ (plusS (num x) (num y) 4).2 = (((x % P64 ^ 4 + y % P64 ^ 4) / P64 ^ 4 : Nat) : Int) := by
  have hx := num_val x
  have hy := num_val y
  obtain ⟨o1, o2, o3, o4⟩ := plusS_ok (num x) (num y) (num_ok x) (num_ok y) (num_length x) (num_length y) 4 (by omega)
  have hv : lval P64 (plusS (num x) (num y) 4).1 + (P64 : Int) ^ 4 * (plusS (num x) (num y) 4).2 = lval P64 (num x) + lval P64 (num y) := by
    have lx := num_length x
    have ly := num_length y
    revert lx ly
    generalize num x = xs
    generalize num y = ys
    intro lx ly
    match xs, ys, lx, ly with
    | [a0, a1, a2, a3], [b0, b1, b2, b3], _, _ =>
      simp only [plusS, lval, P64, List.set_cons_succ, List.set_cons_zero, List.getD_cons_succ, List.getD_cons_zero]
      omega
  have hM : (P64 : Int) ^ 4 = ((P64 ^ 4 : Nat) : Int) := by simp
  rw [hx, hy, hM] at hv
  have hlt : lval P64 (plusS (num x) (num y) 4).1 < ((P64 ^ 4 : Nat) : Int) := by
    have h := lval_limbs P64 (by decide) 4 (lval P64 (plusS (num x) (num y) 4).1).toNat
    have h2 := limbs_lval P64 (by decide) _ o1
    rw [o2] at h2
    rw [h2] at h
    have := Nat.mod_lt (lval P64 (plusS (num x) (num y) 4).1).toNat (show 0 < P64 ^ 4 by decide)
    omega
  have h0 := lval_nonneg P64 _ o1
  have hMp : P64 ^ 4 = 115792089237316195423570985008687907853269984665640564039457584007913129639936 := by decide
  rw [hMp] at hv hlt ⊢
  have e2 : (plusS (num x) (num y) 4).2 = (((x % 115792089237316195423570985008687907853269984665640564039457584007913129639936 + y % 115792089237316195423570985008687907853269984665640564039457584007913129639936) / 115792089237316195423570985008687907853269984665640564039457584007913129639936 : Nat) : Int) := by omega
  refine ⟨eq_num o1 o2 (x + y) ?_, e2⟩
  rw [hMp]
  omega

set_option maxHeartbeats 2000000 in
theorem impl_number_plus.calls (x y : Nat) (w : World) :
    Calls Try.prog 32 #[.agg (arr .u64 (num x)), .agg (arr .u64 (num y))] w fun e w' => e = .returned (.tuple #[.agg (arr .u64 (num (x + y))), .int .u64 (((x % P64 ^ 4 + y % P64 ^ 4) / P64 ^ 4 : Nat) : Int)]) ∧ Below w.heap.size w w' := by
  obtain ⟨V1, V2⟩ := plusS_val x y
  rw [← V1, ← V2]
  clear V1 V2
  obtain ⟨xs, hxs⟩ : ∃ l, l = num x := ⟨_, rfl⟩
  obtain ⟨ys, hys⟩ : ∃ l, l = num y := ⟨_, rfl⟩
  have HX := Aside0.mk (hxs ▸ num_length x)
  have HY := Aside0.mk (hys ▸ num_length y)
  have UX := Aside0.mk (hxs ▸ num_ok x)
  have UY := Aside0.mk (hys ▸ num_ok y)
  rw [← hxs, ← hys]
  clear hxs hys
  go_enter Try.func32, Try.ntmps32
  go_wp2
  go_loopg [6, 7, 8] 4 (fun gg v6 _ v8 wr => ∃ k : Nat, k ≤ 4 ∧ 4 - k ≤ gg ∧ v8 = .int .i64 k ∧ v6 = .int .u64 (plusS xs ys k).2 ∧ Aside0 (wr.heap[w.heap.size]? = some (.cells (arr .u64 (plusS xs ys k).1) 34 (0, 0))) ∧ Aside0 (wr.heap[w.heap.size + 1]? = some (.cells (arr .u64 ys) 34 (0, 0))) ∧ Aside0 (wr.heap[w.heap.size + 2]? = some (.cells (arr .u64 [0, 0, 0, 0]) 34 (0, 0))) ∧ Aside0 (Below w.heap.size w wr))
  case atStart =>
    have b1 : Below w.heap.size w (w.alloc (.cells (arr .u64 xs) 34)) := below_alloc (Below.refl _ _) _
    have b2 := below_alloc b1 (.cells (arr .u64 ys) 34)
    have b3 := below_alloc b2 (.cells (arr .u64 [0, 0, 0, 0]) 34)
    refine ⟨0, by omega, by omega, rfl, rfl, ⟨blk_alloc (blk_alloc (blk_new _ _) _) _⟩, ⟨?_⟩, ⟨?_⟩, ⟨b3⟩⟩
    · have := blk_new (w.alloc (.cells (arr .u64 xs) 34)) (.cells (arr .u64 ys) 34)
      rw [World.size_alloc] at this
      exact blk_alloc this _
    · have := blk_new ((w.alloc (.cells (arr .u64 xs) 34)).alloc (.cells (arr .u64 ys) 34)) (.cells (arr .u64 [0, 0, 0, 0]) 34)
      rw [World.size_alloc, World.size_alloc] at this
      exact this
  case round =>
    obtain ⟨k, hk, hg, rfl, rfl, B0, B1, B2, HB⟩ := hrel
    obtain ⟨o1, o2, o3, o4⟩ := plusS_ok xs ys UX.out UY.out HX.out HY.out k hk
    by_cases hlt : k < 4
    · have hlti : (k : Int) < 4 := by omega
      have hc1 := blk_get B0.out k (by omega)
      have hc2 := blk_get B1.out k (by have := HY.out; omega)
      have hf1 := blk_frozen B0.out k
      have a := getD_range o1 k (by omega)
      have b := getD_range UY.out k (by have := HY.out; omega)
      have hadd := fun W => add64_calls _ _ _ a.1 b.1 o3 o4 W
      have P0 := Aside0.mk (blk_upd B0.out k (((plusS xs ys k).1.getD k 0 + ys.getD k 0 + (plusS xs ys k).2) % 18446744073709551616))
      have EQ := Aside0.mk (show plusS xs ys (k + 1) = ((plusS xs ys k).1.set k (((plusS xs ys k).1.getD k 0 + ys.getD k 0 + (plusS xs ys k).2) % 18446744073709551616), ((plusS xs ys k).1.getD k 0 + ys.getD k 0 + (plusS xs ys k).2) / 18446744073709551616) from rfl)
      clear o1 o2 o3 o4 a b
      generalize (plusS xs ys k).1.getD k 0 = x at *
      generalize ys.getD k 0 = y at *
      have PB := Aside0.mk (below_set (j := k) (v := .int .u64 ((x + y + (plusS xs ys k).2) % 18446744073709551616)) HB.out (Nat.le_refl _))
      go_wp2
      go_region
      go_wp2
      go_roundg (4 - (k + 1))
      case measure => omega
      case rel =>
        exact ⟨k + 1, by omega, by omega, by go_num, by rw [EQ.out], by rw [EQ.out]; exact ⟨blk_drew P0.out⟩, ⟨blk_drew (blk_far B1.out (by simp) _)⟩, ⟨blk_drew (blk_far B2.out (by simp) _)⟩, ⟨below_drew PB.out⟩⟩
    · obtain rfl : k = 4 := by omega
      have hneg : ¬ ((4 : Nat) : Int) < 4 := by omega
      have L := Aside0.mk o2
      clear o1 o2 o3 o4
      go_wp2_with (first
        | ((with_reducible refine gate_dst (N := 25) rfl ?_); refine ld_arr rfl 34 (.tmp 2) rfl w.heap.size rfl B0.out Try.underlying34 (m := 4) (by kernel_rfl) L.out ?_)
        | (refine st_arr rfl 34 (.tmp 4) (.tmp 25) rfl (w.heap.size + 2) (xs := (plusS xs ys 4).1) rfl rfl B2.out (m := 4) (by kernel_rfl) L.out (by rw [L.out]; rfl) ?_; intro w' h1 h2 h4 h3; have H1 := Aside0.mk h1; have H3 := Aside0.mk h3; clear h1 h2 h3 h4))
      exact bodyPost_ret (results_ct Try.results32 _ _ (w.heap.size + 2) 34 _ (0, 0) _ rfl H1.out Try.underlying34 rfl (by rw [arr_size, L.out]; kernel_rfl)) rfl ⟨rfl, H3.out _ _ HB.out (by omega)⟩


/-! ### impl_number_less: function 33 -/
theorem less_at (xs ys : List Int) (ox : Ok P64 xs) (oy : Ok P64 ys) (lx : xs.length = 4) (ly : ys.length = 4) (k : Nat) (hk : k < 4) (he : ∀ j, k < j → j < 4 → xs.getD j 0 = ys.getD j 0) (hn : xs.getD k 0 ≠ ys.getD k 0) :
    decide (lval P64 xs < lval P64 ys) = decide (xs.getD k 0 < ys.getD k 0) := by
  match xs, ys, lx, ly with
  | [a0, a1, a2, a3], [b0, b1, b2, b3], _, _ =>
    have h1 := he 1; have h2 := he 2; have h3 := he 3
    have p0 := ox a0 (by simp); have p1 := ox a1 (by simp); have p2 := ox a2 (by simp); have p3 := ox a3 (by simp)
    have q0 := oy b0 (by simp); have q1 := oy b1 (by simp); have q2 := oy b2 (by simp); have q3 := oy b3 (by simp)
    simp only [List.getD_cons_succ, List.getD_cons_zero] at h1 h2 h3
    simp only [P64] at p0 p1 p2 p3 q0 q1 q2 q3
    rw [Bool.eq_iff_iff, decide_eq_true_iff, decide_eq_true_iff]
    simp only [lval, P64]
    have : k = 0 ∨ k = 1 ∨ k = 2 ∨ k = 3 := by omega
    rcases this with rfl | rfl | rfl | rfl <;> simp only [List.getD_cons_succ, List.getD_cons_zero] at hn ⊢ <;> omega
theorem less_eq (xs ys : List Int) (lx : xs.length = 4) (ly : ys.length = 4) (he : ∀ j, j < 4 → xs.getD j 0 = ys.getD j 0) : decide (lval P64 xs < lval P64 ys) = false := by
  match xs, ys, lx, ly with
  | [a0, a1, a2, a3], [b0, b1, b2, b3], _, _ =>
    have h0 := he 0; have h1 := he 1; have h2 := he 2; have h3 := he 3
    simp only [List.getD_cons_succ, List.getD_cons_zero] at h0 h1 h2 h3
    rw [decide_eq_false_iff_not]
    simp only [lval, P64]
    omega

set_option maxHeartbeats 2000000 in
theorem impl_number_less.calls (x y : Nat) (w : World) :
    Calls Try.prog 33 #[.agg (arr .u64 (num x)), .agg (arr .u64 (num y))] w fun e w' => e = .returned (.bool (decide (x % P64 ^ 4 < y % P64 ^ 4))) ∧ Below w.heap.size w w' := by
  have V : decide (x % P64 ^ 4 < y % P64 ^ 4) = decide (lval P64 (num x) < lval P64 (num y)) := by
    rw [num_val, num_val, Bool.eq_iff_iff, decide_eq_true_iff, decide_eq_true_iff]; omega
  rw [V]
  clear V
  obtain ⟨xs, hxs⟩ : ∃ l, l = num x := ⟨_, rfl⟩
  obtain ⟨ys, hys⟩ : ∃ l, l = num y := ⟨_, rfl⟩
  have HX := Aside0.mk (hxs ▸ num_length x)
  have HY := Aside0.mk (hys ▸ num_length y)
  have UX := Aside0.mk (hxs ▸ num_ok x)
  have UY := Aside0.mk (hys ▸ num_ok y)
  rw [← hxs, ← hys]
  clear hxs hys
  go_enter Try.func33, Try.ntmps33
  go_wp2
  go_loopg [4, 5] 4 (fun gg _ v5 wr => ∃ k : Nat, k ≤ 4 ∧ k ≤ gg ∧ v5 = .int .i64 ((k : Int) - 1) ∧ Aside0 (∀ j, k ≤ j → j < 4 → xs.getD j 0 = ys.getD j 0) ∧ Aside0 (wr.heap[w.heap.size]? = some (.cells (arr .u64 xs) 34 (0, 0))) ∧ Aside0 (wr.heap[w.heap.size + 1]? = some (.cells (arr .u64 ys) 34 (0, 0))) ∧ Aside0 (Below w.heap.size w wr))
  case atStart =>
    have b1 : Below w.heap.size w (w.alloc (.cells (arr .u64 xs) 34)) := below_alloc (Below.refl _ _) _
    have b2 := below_alloc b1 (.cells (arr .u64 ys) 34)
    refine ⟨4, by omega, by omega, rfl, ⟨fun j h1 h2 => by omega⟩, ⟨blk_alloc (blk_new _ _) _⟩, ⟨?_⟩, ⟨b2⟩⟩
    have := blk_new (w.alloc (.cells (arr .u64 xs) 34)) (.cells (arr .u64 ys) 34)
    rw [World.size_alloc] at this
    exact this
  case round =>
    obtain ⟨k, hk, hg, rfl, HE, B0, B1, HB⟩ := hrel
    cases k with
    | zero =>
      have hneg : ¬ (0 : Int) ≤ ((0 : Nat) : Int) - 1 := by omega
      have LE := Aside0.mk (less_eq xs ys HX.out HY.out (fun j h => HE.out j (by omega) h))
      go_wp2
      go_ret
      exact ⟨by rw [LE.out]; rfl, HB.out⟩
    | succ k =>
      have hc1 := blk_get B0.out k (by have := HX.out; omega)
      have hc2 := blk_get B1.out k (by have := HY.out; omega)
      have LA := Aside0.mk (less_at xs ys UX.out UY.out HX.out HY.out k (by omega) (fun j h1 h2 => HE.out j (by omega) h2))
      have hidx : ((k + 1 : Nat) : Int) - 1 = (k : Int) := by omega
      have h0 : (0 : Int) ≤ (k : Int) := by omega
      have h4 : (k : Int) < 4 := by omega
      by_cases heq : xs.getD k 0 = ys.getD k 0
      · have HE2 := Aside0.mk (show ∀ j, k ≤ j → j < 4 → xs.getD j 0 = ys.getD j 0 from fun j h1 h2 => by
          by_cases e : j = k
          · rw [e]; exact heq
          · exact HE.out j (by omega) h2)
        have hq : (xs.getD k 0 != ys.getD k 0) = false := by rw [heq]; simp
        rw [hidx]
        clear heq hidx
        generalize xs.getD k 0 = a at *
        generalize ys.getD k 0 = b at *
        go_wp2
        go_region
        go_wp2
        go_roundg k
        case measure => omega
        case rel => exact ⟨k, by omega, by omega, rfl, HE2, ⟨blk_drew B0.out⟩, ⟨blk_drew B1.out⟩, ⟨below_drew HB.out⟩⟩
      · have hq : (xs.getD k 0 != ys.getD k 0) = true := by simpa using heq
        have LQ := Aside0.mk (LA.out heq)
        rw [hidx]
        clear heq hidx
        generalize xs.getD k 0 = a at *
        generalize ys.getD k 0 = b at *
        go_wp2
        go_region
        go_wp2
        go_region
        go_wp2
        go_ret
        exact ⟨by rw [LQ.out]; rfl, below_drew (below_drew HB.out)⟩


/-! ### impl_order: function 34 -/
set_option maxHeartbeats 1000000 in
set_option maxRecDepth 100000 in
theorem impl_order.calls (w : World) :
    Calls Try.prog 34 #[] w fun e w' => e = .returned (.agg (arr .u64 (num orderN))) ∧ Below w.heap.size w w' := by
  rw [← num_order]
  go_enter Try.func34, Try.ntmps34
  go_wp2
  exact bodyPost_ret (results_cell_row Try.results34 _ _ w.heap.size 34 _ (0, 0) _ rfl (blk_new w _) Try.underlying34 rfl (by kernel_rfl)) rfl ⟨by rfl, below_alloc (Below.refl _ _) _⟩


-- NOT PRINTED: function 39 (bits_Sub64)

/-! ### impl_number_minus: function 35 -/
def sub64Entry : Array Value → Sem Value := fun args => do
  let (x, y, b) ← Extern.MathBitsCarry.three "Sub64" args
  pure (Extern.MathBitsCarry.pair ((x + Extern.MathBitsCarry.m64 - y - b) % Extern.MathBitsCarry.m64) (if x < y + b then 1 else 0))
theorem run_sub64 {P : Program} (x y c : Int) (hx : 0 ≤ x) (hx1 : x < 18446744073709551616) (hy : 0 ≤ y) (hy1 : y < 18446744073709551616) (hc0 : 0 ≤ c) (hc : c ≤ 1) (w : World) :
    (sub64Entry #[.int .u64 x, .int .u64 y, .int .u64 c]).run P w = .ok (.tuple #[.int .u64 ((x - y - c) % 18446744073709551616), .int .u64 (-((x - y - c) / 18446744073709551616))]) w := by
  have key : ∀ k : Nat, k ≤ 1 → (sub64Entry #[.int .u64 x, .int .u64 y, .int .u64 (k : Int)]).run P w =
      .ok (Extern.MathBitsCarry.pair ((x.toNat + Extern.MathBitsCarry.m64 - y.toNat - k) % Extern.MathBitsCarry.m64) (if x.toNat < y.toNat + k then 1 else 0)) w := by
    intro k hk
    have : k = 0 ∨ k = 1 := by omega
    rcases this with rfl | rfl <;> rfl
  obtain ⟨k, rfl⟩ := Int.eq_ofNat_of_zero_le hc0
  rw [key k (by omega)]
  obtain ⟨X, rfl⟩ := Int.eq_ofNat_of_zero_le hx
  obtain ⟨Y, rfl⟩ := Int.eq_ofNat_of_zero_le hy
  simp only [Extern.MathBitsCarry.pair, Extern.MathBitsCarry.m64, Int.toNat_natCast]
  have e1 : (Int.ofNat ((X + 2 ^ 64 - Y - k) % 2 ^ 64)) = (((X : Int) - Y - k) % 18446744073709551616) := by simp only [Int.ofNat_eq_natCast]; omega
  have e2 : (Int.ofNat (if X < Y + k then 1 else 0)) = -(((X : Int) - Y - k) / 18446744073709551616) := by
    split
    · simp only [Int.ofNat_eq_natCast]; omega
    · simp only [Int.ofNat_eq_natCast]; omega
  rw [e1, e2]
theorem sub64_calls (x y c : Int) (hx : 0 ≤ x) (hx1 : x < 18446744073709551616) (hy : 0 ≤ y) (hy1 : y < 18446744073709551616) (hc0 : 0 ≤ c) (hc : c ≤ 1) (w : World) :
   (callFunc 39 #[.int .u64 x, .int .u64 y, .int .u64 c]).run Try.prog w = .ok (.value (.tuple #[.int .u64 ((x - y - c) % 18446744073709551616), .int .u64 (-((x - y - c) / 18446744073709551616))])) w := by
  rw [run_callFunc_extern (fn := Try.f39) (e := sub64Entry) Try.func39 (by rfl) (by rfl) (by kernel_rfl) (by kernel_rfl), run_sub64 x y c hx hx1 hy hy1 hc0 hc]
  rfl

def minusS (xs ys : List Int) : Nat → List Int × Int
  | 0 => (xs, 0)
  | k + 1 => ((minusS xs ys k).1.set k (((minusS xs ys k).1.getD k 0 - ys.getD k 0 - (minusS xs ys k).2) % 18446744073709551616), -(((minusS xs ys k).1.getD k 0 - ys.getD k 0 - (minusS xs ys k).2) / 18446744073709551616))
theorem minusS_ok (xs ys : List Int) (hx : Ok P64 xs) (hy : Ok P64 ys) (lx : xs.length = 4) (ly : ys.length = 4) (k : Nat) (hk : k ≤ 4) : Ok P64 (minusS xs ys k).1 ∧ (minusS xs ys k).1.length = 4 ∧ 0 ≤ (minusS xs ys k).2 ∧ (minusS xs ys k).2 ≤ 1 := by
  induction k with
  | zero => exact ⟨hx, lx, by simp [minusS], by simp [minusS]⟩
  | succ k ih =>
    obtain ⟨h1, h2, h3, h4⟩ := ih (by omega)
    have a := getD_range h1 k (by omega)
    have b := getD_range hy k (by omega)
    simp only [P64] at a b
    refine ⟨ok_set h1 k _ (by omega) (by simp only [P64]; omega), by simp [minusS, h2], by simp only [minusS]; omega, by simp only [minusS]; omega⟩
theorem minusS_val (x y : Nat) : (minusS (num x) (num y) 4).1 = num (x % P64 ^ 4 + P64 ^ 4 - y % P64 ^ 4) ∧ (minusS (num x) (num y) 4).2 = (if x % P64 ^ 4 < y % P64 ^ 4 then (1 : Int) else 0) := by
  have hx := num_val x
  have hy := num_val y
  obtain ⟨o1, o2, o3, o4⟩ := minusS_ok (num x) (num y) (num_ok x) (num_ok y) (num_length x) (num_length y) 4 (by omega)
  have hv : lval P64 (minusS (num x) (num y) 4).1 - (P64 : Int) ^ 4 * (minusS (num x) (num y) 4).2 = lval P64 (num x) - lval P64 (num y) := by
    have lx := num_length x
    have ly := num_length y
    revert lx ly
    generalize num x = xs
    generalize num y = ys
    intro lx ly
    match xs, ys, lx, ly with
    | [a0, a1, a2, a3], [b0, b1, b2, b3], _, _ =>
      simp only [minusS, lval, P64, List.set_cons_succ, List.set_cons_zero, List.getD_cons_succ, List.getD_cons_zero]
      omega
  have hM : (P64 : Int) ^ 4 = ((P64 ^ 4 : Nat) : Int) := by simp
  rw [hx, hy, hM] at hv
  have hlt : lval P64 (minusS (num x) (num y) 4).1 < ((P64 ^ 4 : Nat) : Int) := by
    have h := lval_limbs P64 (by decide) 4 (lval P64 (minusS (num x) (num y) 4).1).toNat
    have h2 := limbs_lval P64 (by decide) _ o1
    rw [o2] at h2
    rw [h2] at h
    have := Nat.mod_lt (lval P64 (minusS (num x) (num y) 4).1).toNat (show 0 < P64 ^ 4 by decide)
    omega
  have h0 := lval_nonneg P64 _ o1
  have hMp : P64 ^ 4 = 115792089237316195423570985008687907853269984665640564039457584007913129639936 := by decide
  rw [hMp] at hv hlt ⊢
  have hxl := Nat.mod_lt x (show 0 < 115792089237316195423570985008687907853269984665640564039457584007913129639936 by decide)
  have hyl := Nat.mod_lt y (show 0 < 115792089237316195423570985008687907853269984665640564039457584007913129639936 by decide)
  have e2 : (minusS (num x) (num y) 4).2 = (if x % 115792089237316195423570985008687907853269984665640564039457584007913129639936 < y % 115792089237316195423570985008687907853269984665640564039457584007913129639936 then (1 : Int) else 0) := by
    split <;> omega
  refine ⟨eq_num o1 o2 (x % P64 ^ 4 + P64 ^ 4 - y % P64 ^ 4) ?_, e2⟩
  rw [hMp]
  omega

set_option maxHeartbeats 2000000 in
theorem impl_number_minus.calls (x y : Nat) (w : World) :
    Calls Try.prog 35 #[.agg (arr .u64 (num x)), .agg (arr .u64 (num y))] w fun e w' => e = .returned (.tuple #[.agg (arr .u64 (num (x % P64 ^ 4 + P64 ^ 4 - y % P64 ^ 4))), .int .u64 (if x % P64 ^ 4 < y % P64 ^ 4 then (1 : Int) else 0)]) ∧ Below w.heap.size w w' := by
  obtain ⟨V1, V2⟩ := minusS_val x y
  rw [← V1, ← V2]
  clear V1 V2
  obtain ⟨xs, hxs⟩ : ∃ l, l = num x := ⟨_, rfl⟩
  obtain ⟨ys, hys⟩ : ∃ l, l = num y := ⟨_, rfl⟩
  have HX := Aside0.mk (hxs ▸ num_length x)
  have HY := Aside0.mk (hys ▸ num_length y)
  have UX := Aside0.mk (hxs ▸ num_ok x)
  have UY := Aside0.mk (hys ▸ num_ok y)
  rw [← hxs, ← hys]
  clear hxs hys
  go_enter Try.func35, Try.ntmps35
  go_wp2
  go_loopg [6, 7, 8] 4 (fun gg v6 _ v8 wr => ∃ k : Nat, k ≤ 4 ∧ 4 - k ≤ gg ∧ v8 = .int .i64 k ∧ v6 = .int .u64 (minusS xs ys k).2 ∧ Aside0 (wr.heap[w.heap.size]? = some (.cells (arr .u64 (minusS xs ys k).1) 34 (0, 0))) ∧ Aside0 (wr.heap[w.heap.size + 1]? = some (.cells (arr .u64 ys) 34 (0, 0))) ∧ Aside0 (wr.heap[w.heap.size + 2]? = some (.cells (arr .u64 [0, 0, 0, 0]) 34 (0, 0))) ∧ Aside0 (Below w.heap.size w wr))
  case atStart =>
    have b1 : Below w.heap.size w (w.alloc (.cells (arr .u64 xs) 34)) := below_alloc (Below.refl _ _) _
    have b2 := below_alloc b1 (.cells (arr .u64 ys) 34)
    have b3 := below_alloc b2 (.cells (arr .u64 [0, 0, 0, 0]) 34)
    refine ⟨0, by omega, by omega, rfl, rfl, ⟨blk_alloc (blk_alloc (blk_new _ _) _) _⟩, ⟨?_⟩, ⟨?_⟩, ⟨b3⟩⟩
    · have := blk_new (w.alloc (.cells (arr .u64 xs) 34)) (.cells (arr .u64 ys) 34)
      rw [World.size_alloc] at this
      exact blk_alloc this _
    · have := blk_new ((w.alloc (.cells (arr .u64 xs) 34)).alloc (.cells (arr .u64 ys) 34)) (.cells (arr .u64 [0, 0, 0, 0]) 34)
      rw [World.size_alloc, World.size_alloc] at this
      exact this
  case round =>
    obtain ⟨k, hk, hg, rfl, rfl, B0, B1, B2, HB⟩ := hrel
    obtain ⟨o1, o2, o3, o4⟩ := minusS_ok xs ys UX.out UY.out HX.out HY.out k hk
    by_cases hlt : k < 4
    · have hlti : (k : Int) < 4 := by omega
      have hc1 := blk_get B0.out k (by omega)
      have hc2 := blk_get B1.out k (by have := HY.out; omega)
      have hf1 := blk_frozen B0.out k
      have a := getD_range o1 k (by omega)
      have b := getD_range UY.out k (by have := HY.out; omega)
      have hadd := fun W => sub64_calls _ _ _ a.1 a.2 b.1 b.2 o3 o4 W
      have P0 := Aside0.mk (blk_upd B0.out k (((minusS xs ys k).1.getD k 0 - ys.getD k 0 - (minusS xs ys k).2) % 18446744073709551616))
      have EQ := Aside0.mk (show minusS xs ys (k + 1) = ((minusS xs ys k).1.set k (((minusS xs ys k).1.getD k 0 - ys.getD k 0 - (minusS xs ys k).2) % 18446744073709551616), -(((minusS xs ys k).1.getD k 0 - ys.getD k 0 - (minusS xs ys k).2) / 18446744073709551616)) from rfl)
      clear o1 o2 o3 o4 a b
      generalize (minusS xs ys k).1.getD k 0 = x at *
      generalize ys.getD k 0 = y at *
      have PB := Aside0.mk (below_set (j := k) (v := .int .u64 ((x - y - (minusS xs ys k).2) % 18446744073709551616)) HB.out (Nat.le_refl _))
      go_wp2
      go_region
      go_wp2
      go_roundg (4 - (k + 1))
      case measure => omega
      case rel =>
        exact ⟨k + 1, by omega, by omega, by go_num, by rw [EQ.out], by rw [EQ.out]; exact ⟨blk_drew P0.out⟩, ⟨blk_drew (blk_far B1.out (by simp) _)⟩, ⟨blk_drew (blk_far B2.out (by simp) _)⟩, ⟨below_drew PB.out⟩⟩
    · obtain rfl : k = 4 := by omega
      have hneg : ¬ ((4 : Nat) : Int) < 4 := by omega
      have L := Aside0.mk o2
      clear o1 o2 o3 o4
      go_wp2_with (first
        | ((with_reducible refine gate_dst (N := 25) rfl ?_); refine ld_arr rfl 34 (.tmp 2) rfl w.heap.size rfl B0.out Try.underlying34 (m := 4) (by kernel_rfl) L.out ?_)
        | (refine st_arr rfl 34 (.tmp 4) (.tmp 25) rfl (w.heap.size + 2) (xs := (minusS xs ys 4).1) rfl rfl B2.out (m := 4) (by kernel_rfl) L.out (by rw [L.out]; rfl) ?_; intro w' h1 h2 h4 h3; have H1 := Aside0.mk h1; have H3 := Aside0.mk h3; clear h1 h2 h3 h4))
      exact bodyPost_ret (results_ct Try.results35 _ _ (w.heap.size + 2) 34 _ (0, 0) _ rfl H1.out Try.underlying34 rfl (by rw [arr_size, L.out]; kernel_rfl)) rfl ⟨rfl, H3.out _ _ HB.out (by omega)⟩


end Go.Proofs.Ytlphppkhihabdaa.XN
