-- Written by a program of this session (xp.py over the kit's printer, with functions proved by hand). Lean checks it.
import Derived.Test.YtijeackkgcnbgaaXHx0
import Derived.Test.YtijeackkgcnbgaaXHx3
import Derived.Test.YtijeackkgcnbgaaXHx4
namespace Go.Proofs.Ytijeackkgcnbgaa.XH
open Go.Proofs.Ytijeackkgcnbgaa.Limb Go.Proofs.Ytijeackkgcnbgaa.Arr Go.Proofs.Ytijeackkgcnbgaa.FldA Go.Proofs.Ytijeackkgcnbgaa.FldB Go.Proofs.Ytijeackkgcnbgaa.FldC Go.Proofs.Ytijeackkgcnbgaa.FldS Go.Proofs.Ytijeackkgcnbgaa.FldP Go.Proofs.Ytijeackkgcnbgaa.FldW Go.Proofs.Ytijeackkgcnbgaa.FldM Go.Proofs.Ytijeackkgcnbgaa.FldT Go.Proofs.Ytijeackkgcnbgaa.FldRoot Go.Proofs.Ytijeackkgcnbgaa.FldRoot2 Go.Proofs.Ytijeackkgcnbgaa.St Go.Proofs.Ytijeackkgcnbgaa.StOps Go.Proofs.Ytijeackkgcnbgaa.StMid Go.Proofs.Ytijeackkgcnbgaa.StEq Go.Proofs.Ytijeackkgcnbgaa.StIdx Go.Proofs.Ytijeackkgcnbgaa.StSrc
open Go.RowKit Go.Proofs.YtijeackkgcnbgaaW.PrintWords Go.Proofs.YtijeackkgcnbgaaW.PrintLast Go.Proofs.YtijeackkgcnbgaaW.PrintMore
attribute [local go_sem] max2_int min2_int max_two min_two max_three min_three max_four min_four   -- for this text's walks alone
set_option linter.unusedVariables false
set_option linter.unusedSimpArgs false

/-! ### spec_l00Src_byte: function 107 -/
set_option maxHeartbeats 1000000 in
set_option maxRecDepth 100000 in
theorem l00byte.calls (g : Nat) (A : Option Addr) (c : Nat) (code : List Int) (a : Nat) (seed : Int) (w0 w : World) (hg : w.heap[g]? = some (.cells #[.slice A code.length c, .int .i64 (a : Int), .int .i64 seed] 86 (0, 0)))
    (hC : Kd.C (Kd.int .u8) w0 A code.length code) (hB : Below w0.heap.size w0 w) (hgb : w0.heap.size ≤ g) (ho : Ok 256 code) (ha : a < 1000000) (hs : 0 ≤ seed ∧ seed < 2147483648) (hl : code.length < 1099511627776) :
    Calls Try.prog 107 #[.pointer (some ⟨g, 0, none⟩)] w fun e w' => e = .returned (.int .i64 (byV code a seed)) ∧ w'.heap[g]? = some (.cells #[.slice A code.length c, .int .i64 ((a + 1 : Nat) : Int), .int .i64 (byS code a seed)] 86 (0, 0)) ∧ Ch g w w' := by
  have hB2 := hB
  have hs1 := hs.1
  have hs2 := hs.2
  obtain ⟨a1, ha1⟩ : ∃ a1 : Int, a1 = (a : Int) + 1 := ⟨_, rfl⟩
  have hq : (a : Int) + 1 = a1 := ha1.symm
  have ea : ((a + 1 : Nat) : Int) = a1 := by omega
  have hm : a1 - 1 = (a : Int) := by omega
  have k1a : 0 ≤ a1 := by omega
  have k1b : a1 ≤ 1000000 := by omega
  have m1 : w.cell? ⟨g, 1, none⟩ = some (.int .i64 (a : Int)) := (blk_cell hg 1).trans rfl
  have f1 := blk_frozen hg 1
  have G1 := Aside0.mk (blk_put hg 1 (.int .i64 a1) (cs' := #[.slice A code.length c, .int .i64 a1, .int .i64 seed]) rfl)
  have C1 := Aside0.mk ((Ch.refl g w).set 1 (.int .i64 a1))
  have HC1 := Aside0.mk (Kd.C_below hC (C1.out.bel _ _ hB hgb))
  rw [ea]
  have HCB := Aside0.mk (fun W (h : Ch g w W) => Kd.C_below hC (h.bel _ _ hB hgb))
  have HA := Aside0.mk ha
  have HG := Aside0.mk hg
  have HO := Aside0.mk ho
  clear hC hB hB2 hg hs hgb ho ea ha1 ha
  go_enter Try.func107, Try.ntmps107
  go_wp2
  generalize w.setCell ⟨g, 1, none⟩ (.int .i64 a1) = w1 at *
  have k0 : w1.cell? ⟨g, 0, none⟩ = some (.slice A code.length c) := (blk_cell G1.out 0).trans rfl
  have k1 : w1.cell? ⟨g, 1, none⟩ = some (.int .i64 a1) := (blk_cell G1.out 1).trans rfl
  have k2 : w1.cell? ⟨g, 2, none⟩ = some (.int .i64 seed) := (blk_cell G1.out 2).trans rfl
  have f2 := blk_frozen G1.out 2
  clear m1 f1
  by_cases hlt : a < code.length
  · have hle : a1 ≤ (code.length : Int) := by omega
    obtain ⟨ad, e1, kx⟩ := Kd.at_int HC1.out (a : Int) (by omega) (by omega)
    cases e1
    simp only [Int.toNat_natCast] at kx
    have hrx : rd code (a : Int) = code.getD a 0 := by simp [rd]
    rw [hrx] at kx
    have HRX := Aside0.mk hrx
    have hr := getD_range HO.out a hlt
    have EV := Aside0.mk (show byV code a seed = code.getD a 0 by unfold byV; rw [if_pos hlt])
    have ES := Aside0.mk (show byS code a seed = (seed * 31 + code.getD a 0 + 7) % 2147483648 by unfold byS; rw [if_pos hlt])
    generalize code.getD a 0 = x at *
    have hx0 := hr.1
    have hx1 : x < 256 := hr.2
    clear hr hrx
    obtain ⟨s1, hs3⟩ : ∃ s1, s1 = seed * 31 := ⟨_, rfl⟩
    have q1 : seed * 31 = s1 := hs3.symm
    obtain ⟨s2, hs4⟩ : ∃ s2, s2 = s1 + x := ⟨_, rfl⟩
    have q2 : s1 + x = s2 := hs4.symm
    obtain ⟨s3, hs5⟩ : ∃ s3, s3 = s2 + 7 := ⟨_, rfl⟩
    have q3 : s2 + 7 = s3 := hs5.symm
    obtain ⟨s4, hs6⟩ : ∃ s4, s4 = s3 % 2147483648 := ⟨_, rfl⟩
    have q4 : s3 % 2147483648 = s4 := hs6.symm
    have w1_ : IntKind.i64.wrap s1 = s1 := by rw [IntKind.wrap_i64]; omega
    have w2_ : IntKind.i64.wrap s2 = s2 := by rw [IntKind.wrap_i64]; omega
    have w3_ : IntKind.i64.wrap s3 = s3 := by rw [IntKind.wrap_i64]; omega
    have w4_ : IntKind.i64.wrap x = x := by rw [IntKind.wrap_i64]; omega
    have w6_ : IntKind.i64.wrap (a : Int) = (a : Int) := by rw [IntKind.wrap_i64]; omega
    have q5 : s3.tmod 2147483648 = s4 := by rw [Int.tmod_eq_emod_of_nonneg (by omega)]; exact q4
    have w5_ : IntKind.i64.wrap s4 = s4 := by rw [IntKind.wrap_i64]; omega
    have ha0 : (0 : Int) ≤ (a : Int) := by omega
    have hal : (a : Int) < (code.length : Int) := by omega
    rw [q1, q2, q3, q4] at ES
    clear hs3 hs4 hs5 hs6
    go_wp2
    refine start_ (n := 10) (S := fun w' => w'.cell? ⟨g, 0, none⟩ = some (.slice (some ad) code.length c) ∧ w'.cell? ⟨g, 1, none⟩ = some (.int .i64 a1)) (ds := []) #[false, false, false, false, false, false, false, false, false, false] (by kernel_rfl) rfl rfl ⟨k0, k1⟩ (fun hHeld => ?_)
    refine pure_ (i := 0) (N := some 10) (v := ?_) (a' := ?_) #[true, false, false, false, false, false, false, false, false, false] rfl rfl (by kernel_rfl) (fun _ _ _ h => h) (Or.inl ⟨by rfl, ?_⟩) ?_ ?_
    rotate_left
    · intro w'; go_simp; with_reducible rfl
    rotate_left
    · simp only [Act.put, OpenRow.s1, OpenRow.s2, OpenRow.s3, i64_w, i32_w]; rfl
    refine pure_ (i := 1) (N := some 11) (v := ?_) (a' := ?_) #[true, true, false, false, false, false, false, false, false, false] rfl rfl (by kernel_rfl) (fun _ _ _ h => h) (Or.inl ⟨by rfl, ?_⟩) ?_ ?_
    rotate_left
    · intro w'; go_simp; with_reducible rfl
    rotate_left
    · simp only [Act.put, OpenRow.s1, OpenRow.s2, OpenRow.s3, i64_w, i32_w]; rfl
    refine pure_ (i := 2) (N := some 12) (v := ?_) (a' := ?_) #[true, true, true, false, false, false, false, false, false, false] rfl rfl (by kernel_rfl) (fun _ _ _ h => h) (Or.inl ⟨by rfl, ?_⟩) ?_ ?_
    rotate_left
    · intro w'; go_simp; with_reducible rfl
    rotate_left
    · simp only [Act.put, OpenRow.s1, OpenRow.s2, OpenRow.s3, i64_w, i32_w]; rfl
    refine pure_ (i := 4) (N := some 14) (v := ?_) (a' := ?_) #[true, true, true, false, true, false, false, false, false, false] rfl rfl (by kernel_rfl) (fun _ _ _ h => h) (Or.inl ⟨by rfl, ?_⟩) ?_ ?_
    rotate_left
    · intro w'; go_simp; with_reducible rfl
    rotate_left
    · simp only [Act.put, OpenRow.s1, OpenRow.s2, OpenRow.s3, i64_w, i32_w]; rfl
    refine pure_ (i := 5) (N := some 15) (v := ?_) (a' := ?_) #[true, true, true, false, true, true, false, false, false, false] rfl rfl (by kernel_rfl) (fun _ _ _ h => h) (Or.inl ⟨by rfl, ?_⟩) ?_ ?_
    rotate_left
    · intro w'; go_simp; with_reducible rfl
    rotate_left
    · simp only [Act.put, OpenRow.s1, OpenRow.s2, OpenRow.s3, i64_w, i32_w]; rfl
    refine pure_ (i := 6) (N := some 16) (v := ?_) (a' := ?_) #[true, true, true, false, true, true, true, false, false, false] rfl rfl (by kernel_rfl) (fun _ _ _ h => h) (Or.inl ⟨by rfl, ?_⟩) ?_ ?_
    rotate_left
    · intro w'; go_simp; with_reducible rfl
    rotate_left
    · simp only [Act.put, OpenRow.s1, OpenRow.s2, OpenRow.s3, i64_w, i32_w]; rfl
    refine take_ (i := 3) (N := some 13) (v := ?_) (a' := ?_) #[true, true, true, true, true, true, true, false, false, false] rfl rfl (by kernel_rfl) (fun _ _ _ h => h) (Or.inl ⟨by rfl, ?_⟩) hHeld ?_ ?_
    rotate_left
    · rintro w' ⟨s0, s1⟩
      go_simp
      with_reducible rfl
    rotate_left
    · simp only [Act.put, OpenRow.s1, OpenRow.s2, OpenRow.s3, i64_w, i32_w]; rfl
    refine take_ (i := 7) (N := some 17) (v := ?_) (a' := ?_) #[true, true, true, true, true, true, true, true, false, false] rfl rfl (by kernel_rfl) (fun _ _ _ h => h) (Or.inl ⟨by rfl, ?_⟩) hHeld ?_ ?_
    rotate_left
    · rintro w' ⟨s0, s1⟩
      go_simp
      with_reducible rfl
    rotate_left
    · simp only [Act.put, OpenRow.s1, OpenRow.s2, OpenRow.s3, i64_w, i32_w]; rfl
    refine pure_ (i := 8) (N := some 18) (v := ?_) (a' := ?_) #[true, true, true, true, true, true, true, true, true, false] rfl rfl (by kernel_rfl) (fun _ _ _ h => h) (Or.inl ⟨by rfl, ?_⟩) ?_ ?_
    rotate_left
    · intro w'; go_simp; with_reducible rfl
    rotate_left
    · simp only [Act.put, OpenRow.s1, OpenRow.s2, OpenRow.s3, i64_w, i32_w]; rfl
    refine pure_ (i := 9) (N := some 19) (v := ?_) (a' := ?_) #[true, true, true, true, true, true, true, true, true, true] rfl rfl (by kernel_rfl) (fun _ _ _ h => h) (Or.inl ⟨by rfl, ?_⟩) ?_ ?_
    rotate_left
    · intro w'; go_simp; with_reducible rfl
    rotate_left
    · simp only [Act.put, OpenRow.s1, OpenRow.s2, OpenRow.s3, i64_w, i32_w]; rfl
    refine done_ (by kernel_rfl) ?_

    have G2 := Aside0.mk (blk_drew G1.out)
    have C2 := Aside0.mk C1.out.drew
    have n0 : w1.drew.cell? ⟨g, 0, none⟩ = some (.slice (some ad) code.length c) := k0
    have n1 : w1.drew.cell? ⟨g, 1, none⟩ = some (.int .i64 a1) := k1
    have n2 : w1.drew.cell? ⟨g, 2, none⟩ = some (.int .i64 seed) := k2
    have g2 : w1.drew.frozen? ⟨g, 2, none⟩ = false := f2
    have nx : w1.drew.cell? (ad.add a) = some (.int .u8 x) := kx
    clear k0 k1 k2 f2 kx C1 G1 HC1
    generalize w1.drew = w2 at *
    have k0 := n0
    have k1 := n1
    have k2 := n2
    have f2 := g2
    have kx := nx
    clear n0 n1 n2 g2 nx
    go_wp2
    refine start_ (n := 24) (S := fun w' => w'.cell? ⟨g, 0, none⟩ = some (.slice (some ad) code.length c) ∧ w'.cell? ⟨g, 1, none⟩ = some (.int .i64 a1) ∧ w'.cell? ⟨g, 2, none⟩ = some (.int .i64 seed) ∧ w'.cell? (ad.add a) = some (.int .u8 x)) (ds := [23]) #[false, false, false, false, false, false, false, false, false, false, false, false, false, false, false, false, false, false, false, false, false, false, false, false] (by kernel_rfl) rfl rfl ⟨k0, k1, k2, kx⟩ (fun hHeld => ?_)
    refine pure_ (i := 0) (N := some 20) (v := ?_) (a' := ?_) #[true, false, false, false, false, false, false, false, false, false, false, false, false, false, false, false, false, false, false, false, false, false, false, false] rfl rfl (by kernel_rfl) (fun _ _ _ h => h) (Or.inl ⟨by rfl, ?_⟩) ?_ ?_
    rotate_left
    · intro w'; go_simp; with_reducible rfl
    rotate_left
    · simp only [Act.put, OpenRow.s1, OpenRow.s2, OpenRow.s3, i64_w, i32_w]; rfl
    refine pure_ (i := 1) (N := some 21) (v := ?_) (a' := ?_) #[true, true, false, false, false, false, false, false, false, false, false, false, false, false, false, false, false, false, false, false, false, false, false, false] rfl rfl (by kernel_rfl) (fun _ _ _ h => h) (Or.inl ⟨by rfl, ?_⟩) ?_ ?_
    rotate_left
    · intro w'; go_simp; with_reducible rfl
    rotate_left
    · simp only [Act.put, OpenRow.s1, OpenRow.s2, OpenRow.s3, i64_w, i32_w]; rfl
    refine pure_ (i := 2) (N := some 22) (v := ?_) (a' := ?_) #[true, true, true, false, false, false, false, false, false, false, false, false, false, false, false, false, false, false, false, false, false, false, false, false] rfl rfl (by kernel_rfl) (fun _ _ _ h => h) (Or.inl ⟨by rfl, ?_⟩) ?_ ?_
    rotate_left
    · intro w'; go_simp; with_reducible rfl
    rotate_left
    · simp only [Act.put, OpenRow.s1, OpenRow.s2, OpenRow.s3, i64_w, i32_w]; rfl
    refine pure_ (i := 3) (N := some 23) (v := ?_) (a' := ?_) #[true, true, true, true, false, false, false, false, false, false, false, false, false, false, false, false, false, false, false, false, false, false, false, false] rfl rfl (by kernel_rfl) (fun _ _ _ h => h) (Or.inl ⟨by rfl, ?_⟩) ?_ ?_
    rotate_left
    · intro w'; go_simp; with_reducible rfl
    rotate_left
    · simp only [Act.put, OpenRow.s1, OpenRow.s2, OpenRow.s3, i64_w, i32_w]; rfl
    refine pure_ (i := 6) (N := some 26) (v := ?_) (a' := ?_) #[true, true, true, true, false, false, true, false, false, false, false, false, false, false, false, false, false, false, false, false, false, false, false, false] rfl rfl (by kernel_rfl) (fun _ _ _ h => h) (Or.inl ⟨by rfl, ?_⟩) ?_ ?_
    rotate_left
    · intro w'; go_simp; with_reducible rfl
    rotate_left
    · simp only [Act.put, OpenRow.s1, OpenRow.s2, OpenRow.s3, i64_w, i32_w]; rfl
    refine pure_ (i := 7) (N := some 27) (v := ?_) (a' := ?_) #[true, true, true, true, false, false, true, true, false, false, false, false, false, false, false, false, false, false, false, false, false, false, false, false] rfl rfl (by kernel_rfl) (fun _ _ _ h => h) (Or.inl ⟨by rfl, ?_⟩) ?_ ?_
    rotate_left
    · intro w'; go_simp; with_reducible rfl
    rotate_left
    · simp only [Act.put, OpenRow.s1, OpenRow.s2, OpenRow.s3, i64_w, i32_w]; rfl
    refine pure_ (i := 8) (N := some 28) (v := ?_) (a' := ?_) #[true, true, true, true, false, false, true, true, true, false, false, false, false, false, false, false, false, false, false, false, false, false, false, false] rfl rfl (by kernel_rfl) (fun _ _ _ h => h) (Or.inl ⟨by rfl, ?_⟩) ?_ ?_
    rotate_left
    · intro w'; go_simp; with_reducible rfl
    rotate_left
    · simp only [Act.put, OpenRow.s1, OpenRow.s2, OpenRow.s3, i64_w, i32_w]; rfl
    refine pure_ (i := 10) (N := some 30) (v := ?_) (a' := ?_) #[true, true, true, true, false, false, true, true, true, false, true, false, false, false, false, false, false, false, false, false, false, false, false, false] rfl rfl (by kernel_rfl) (fun _ _ _ h => h) (Or.inl ⟨by rfl, ?_⟩) ?_ ?_
    rotate_left
    · intro w'; go_simp; with_reducible rfl
    rotate_left
    · simp only [Act.put, OpenRow.s1, OpenRow.s2, OpenRow.s3, i64_w, i32_w]; rfl
    refine pure_ (i := 11) (N := some 31) (v := ?_) (a' := ?_) #[true, true, true, true, false, false, true, true, true, false, true, true, false, false, false, false, false, false, false, false, false, false, false, false] rfl rfl (by kernel_rfl) (fun _ _ _ h => h) (Or.inl ⟨by rfl, ?_⟩) ?_ ?_
    rotate_left
    · intro w'; go_simp; with_reducible rfl
    rotate_left
    · simp only [Act.put, OpenRow.s1, OpenRow.s2, OpenRow.s3, i64_w, i32_w]; rfl
    refine pure_ (i := 12) (N := some 32) (v := ?_) (a' := ?_) #[true, true, true, true, false, false, true, true, true, false, true, true, true, false, false, false, false, false, false, false, false, false, false, false] rfl rfl (by kernel_rfl) (fun _ _ _ h => h) (Or.inl ⟨by rfl, ?_⟩) ?_ ?_
    rotate_left
    · intro w'; go_simp; with_reducible rfl
    rotate_left
    · simp only [Act.put, OpenRow.s1, OpenRow.s2, OpenRow.s3, i64_w, i32_w]; rfl
    refine take_ (i := 4) (N := some 24) (v := ?_) (a' := ?_) #[true, true, true, true, true, false, true, true, true, false, true, true, true, false, false, false, false, false, false, false, false, false, false, false] rfl rfl (by kernel_rfl) (fun _ _ _ h => h) (Or.inl ⟨by rfl, ?_⟩) hHeld ?_ ?_
    rotate_left
    · rintro w' ⟨s0, s1, s2, s3⟩
      go_simp
      with_reducible rfl
    rotate_left
    · simp only [Act.put, OpenRow.s1, OpenRow.s2, OpenRow.s3, i64_w, i32_w]; rfl
    refine pure_ (i := 5) (N := some 25) (v := ?_) (a' := ?_) #[true, true, true, true, true, true, true, true, true, false, true, true, true, false, false, false, false, false, false, false, false, false, false, false] rfl rfl (by kernel_rfl) (fun _ _ _ h => h) (Or.inl ⟨by rfl, ?_⟩) ?_ ?_
    rotate_left
    · intro w'; go_simp; with_reducible rfl
    rotate_left
    · simp only [Act.put, OpenRow.s1, OpenRow.s2, OpenRow.s3, i64_w, i32_w]; rfl
    refine take_ (i := 9) (N := some 29) (v := ?_) (a' := ?_) #[true, true, true, true, true, true, true, true, true, true, true, true, true, false, false, false, false, false, false, false, false, false, false, false] rfl rfl (by kernel_rfl) (fun _ _ _ h => h) (Or.inl ⟨by rfl, ?_⟩) hHeld ?_ ?_
    rotate_left
    · rintro w' ⟨s0, s1, s2, s3⟩
      go_simp
      with_reducible rfl
    rotate_left
    · simp only [Act.put, OpenRow.s1, OpenRow.s2, OpenRow.s3, i64_w, i32_w]; rfl
    refine take_ (i := 13) (N := some 33) (v := ?_) (a' := ?_) #[true, true, true, true, true, true, true, true, true, true, true, true, true, true, false, false, false, false, false, false, false, false, false, false] rfl rfl (by kernel_rfl) (fun _ _ _ h => h) (Or.inl ⟨by rfl, ?_⟩) hHeld ?_ ?_
    rotate_left
    · rintro w' ⟨s0, s1, s2, s3⟩
      go_simp
      with_reducible rfl
    rotate_left
    · simp only [Act.put, OpenRow.s1, OpenRow.s2, OpenRow.s3, i64_w, i32_w]; rfl
    refine pure_ (i := 14) (N := some 34) (v := ?_) (a' := ?_) #[true, true, true, true, true, true, true, true, true, true, true, true, true, true, true, false, false, false, false, false, false, false, false, false] rfl rfl (by kernel_rfl) (fun _ _ _ h => h) (Or.inl ⟨by rfl, ?_⟩) ?_ ?_
    rotate_left
    · intro w'; go_simp; with_reducible rfl
    rotate_left
    · simp only [Act.put, OpenRow.s1, OpenRow.s2, OpenRow.s3, i64_w, i32_w]; rfl
    refine pure_ (i := 15) (N := some 35) (v := ?_) (a' := ?_) #[true, true, true, true, true, true, true, true, true, true, true, true, true, true, true, true, false, false, false, false, false, false, false, false] rfl rfl (by kernel_rfl) (fun _ _ _ h => h) (Or.inl ⟨by rfl, ?_⟩) ?_ ?_
    rotate_left
    · intro w'; go_simp; with_reducible rfl
    rotate_left
    · simp only [Act.put, OpenRow.s1, OpenRow.s2, OpenRow.s3, i64_w, i32_w]; rfl
    refine take_ (i := 16) (N := some 36) (v := ?_) (a' := ?_) #[true, true, true, true, true, true, true, true, true, true, true, true, true, true, true, true, true, false, false, false, false, false, false, false] rfl rfl (by kernel_rfl) (fun _ _ _ h => h) (Or.inl ⟨by rfl, ?_⟩) hHeld ?_ ?_
    rotate_left
    · rintro w' ⟨s0, s1, s2, s3⟩
      go_simp
      with_reducible rfl
    rotate_left
    · simp only [Act.put, OpenRow.s1, OpenRow.s2, OpenRow.s3, i64_w, i32_w]; rfl
    refine pure_ (i := 17) (N := some 37) (v := ?_) (a' := ?_) #[true, true, true, true, true, true, true, true, true, true, true, true, true, true, true, true, true, true, false, false, false, false, false, false] rfl rfl (by kernel_rfl) (fun _ _ _ h => h) (Or.inl ⟨by rfl, ?_⟩) ?_ ?_
    rotate_left
    · intro w'; go_simp; with_reducible rfl
    rotate_left
    · simp only [Act.put, OpenRow.s1, OpenRow.s2, OpenRow.s3, i64_w, i32_w]; rfl
    refine pure_ (i := 18) (N := some 38) (v := ?_) (a' := ?_) #[true, true, true, true, true, true, true, true, true, true, true, true, true, true, true, true, true, true, true, false, false, false, false, false] rfl rfl (by kernel_rfl) (fun _ _ _ h => h) (Or.inl ⟨by rfl, ?_⟩) ?_ ?_
    rotate_left
    · intro w'; go_simp; with_reducible rfl
    rotate_left
    · simp only [Act.put, OpenRow.s1, OpenRow.s2, OpenRow.s3, i64_w, i32_w]; rfl
    refine pure_ (i := 19) (N := some 39) (v := ?_) (a' := ?_) #[true, true, true, true, true, true, true, true, true, true, true, true, true, true, true, true, true, true, true, true, false, false, false, false] rfl rfl (by kernel_rfl) (fun _ _ _ h => h) (Or.inl ⟨by rfl, ?_⟩) ?_ ?_
    rotate_left
    · intro w'; go_simp; with_reducible rfl
    rotate_left
    · simp only [Act.put, OpenRow.s1, OpenRow.s2, OpenRow.s3, i64_w, i32_w]; rfl
    refine pure_ (i := 20) (N := some 40) (v := ?_) (a' := ?_) #[true, true, true, true, true, true, true, true, true, true, true, true, true, true, true, true, true, true, true, true, true, false, false, false] rfl rfl (by kernel_rfl) (fun _ _ _ h => h) (Or.inl ⟨by rfl, ?_⟩) ?_ ?_
    rotate_left
    · intro w'; go_simp; with_reducible rfl
    rotate_left
    · simp only [Act.put, OpenRow.s1, OpenRow.s2, OpenRow.s3, i64_w, i32_w]; rfl
    refine pure_ (i := 21) (N := some 41) (v := ?_) (a' := ?_) #[true, true, true, true, true, true, true, true, true, true, true, true, true, true, true, true, true, true, true, true, true, true, false, false] rfl rfl (by kernel_rfl) (fun _ _ _ h => h) (Or.inl ⟨by rfl, ?_⟩) ?_ ?_
    rotate_left
    · intro w'; go_simp; with_reducible rfl
    rotate_left
    · simp only [Act.put, OpenRow.s1, OpenRow.s2, OpenRow.s3, i64_w, i32_w]; rfl
    refine pure_ (i := 22) (N := some 42) (v := ?_) (a' := ?_) #[true, true, true, true, true, true, true, true, true, true, true, true, true, true, true, true, true, true, true, true, true, true, true, false] rfl rfl (by kernel_rfl) (fun _ _ _ h => h) (Or.inl ⟨by rfl, ?_⟩) ?_ ?_
    rotate_left
    · intro w'; go_simp; with_reducible rfl
    rotate_left
    · simp only [Act.put, OpenRow.s1, OpenRow.s2, OpenRow.s3, i64_w, i32_w]; rfl
    refine last_ (i := 23) (N := none) #[true, true, true, true, true, true, true, true, true, true, true, true, true, true, true, true, true, true, true, true, true, true, true, true] rfl rfl (by kernel_rfl) (by decide) (fun K hK => ?_)
    refine skip_ (w1 := ?_) (by rfl) rfl ?_ ?_
    rotate_left
    · go_simp
      rfl
    refine hK.out _ _ ?_
    clear hK K
    refine done_ (by kernel_rfl) ?_

    have G3 := Aside0.mk (blk_drew (blk_put G2.out 2 (.int .i64 s4) (cs' := #[.slice (some ad) code.length c, .int .i64 a1, .int .i64 s4]) rfl))
    have C3 := Aside0.mk (C2.out.set 2 (.int .i64 s4)).drew
    have kx2 : (w2.setCell ⟨g, 2, none⟩ (.int .i64 s4)).drew.cell? (ad.add a) = some (.int .u8 x) := by
      obtain ⟨ad2, e2, kx2⟩ := Kd.at_int (HCB.out _ C3.out) (a : Int) (by omega) (by omega)
      cases e2
      simp only [Int.toNat_natCast] at kx2
      rw [HRX.out] at kx2
      exact kx2
    clear k0 k1 k2 f2 kx G2 C2
    generalize (w2.setCell ⟨g, 2, none⟩ (.int .i64 s4)).drew = w3 at *
    have k0 : w3.cell? ⟨g, 0, none⟩ = some (.slice (some ad) code.length c) := (blk_cell G3.out 0).trans rfl
    have k1 : w3.cell? ⟨g, 1, none⟩ = some (.int .i64 a1) := (blk_cell G3.out 1).trans rfl
    have kx := kx2
    clear kx2
    go_wp2
    refine start_ (n := 13) (S := fun w' => w'.cell? ⟨g, 0, none⟩ = some (.slice (some ad) code.length c) ∧ w'.cell? ⟨g, 1, none⟩ = some (.int .i64 a1) ∧ w'.cell? (ad.add a) = some (.int .u8 x)) (ds := []) #[false, false, false, false, false, false, false, false, false, false, false, false, false] (by kernel_rfl) rfl rfl ⟨k0, k1, kx⟩ (fun hHeld => ?_)
    refine pure_ (i := 0) (N := some 43) (v := ?_) (a' := ?_) #[true, false, false, false, false, false, false, false, false, false, false, false, false] rfl rfl (by kernel_rfl) (fun _ _ _ h => h) (Or.inl ⟨by rfl, ?_⟩) ?_ ?_
    rotate_left
    · intro w'; go_simp; with_reducible rfl
    rotate_left
    · simp only [Act.put, OpenRow.s1, OpenRow.s2, OpenRow.s3, i64_w, i32_w]; rfl
    refine pure_ (i := 1) (N := some 44) (v := ?_) (a' := ?_) #[true, true, false, false, false, false, false, false, false, false, false, false, false] rfl rfl (by kernel_rfl) (fun _ _ _ h => h) (Or.inl ⟨by rfl, ?_⟩) ?_ ?_
    rotate_left
    · intro w'; go_simp; with_reducible rfl
    rotate_left
    · simp only [Act.put, OpenRow.s1, OpenRow.s2, OpenRow.s3, i64_w, i32_w]; rfl
    refine pure_ (i := 2) (N := some 45) (v := ?_) (a' := ?_) #[true, true, true, false, false, false, false, false, false, false, false, false, false] rfl rfl (by kernel_rfl) (fun _ _ _ h => h) (Or.inl ⟨by rfl, ?_⟩) ?_ ?_
    rotate_left
    · intro w'; go_simp; with_reducible rfl
    rotate_left
    · simp only [Act.put, OpenRow.s1, OpenRow.s2, OpenRow.s3, i64_w, i32_w]; rfl
    refine pure_ (i := 4) (N := some 47) (v := ?_) (a' := ?_) #[true, true, true, false, true, false, false, false, false, false, false, false, false] rfl rfl (by kernel_rfl) (fun _ _ _ h => h) (Or.inl ⟨by rfl, ?_⟩) ?_ ?_
    rotate_left
    · intro w'; go_simp; with_reducible rfl
    rotate_left
    · simp only [Act.put, OpenRow.s1, OpenRow.s2, OpenRow.s3, i64_w, i32_w]; rfl
    refine pure_ (i := 5) (N := some 48) (v := ?_) (a' := ?_) #[true, true, true, false, true, true, false, false, false, false, false, false, false] rfl rfl (by kernel_rfl) (fun _ _ _ h => h) (Or.inl ⟨by rfl, ?_⟩) ?_ ?_
    rotate_left
    · intro w'; go_simp; with_reducible rfl
    rotate_left
    · simp only [Act.put, OpenRow.s1, OpenRow.s2, OpenRow.s3, i64_w, i32_w]; rfl
    refine pure_ (i := 6) (N := some 49) (v := ?_) (a' := ?_) #[true, true, true, false, true, true, true, false, false, false, false, false, false] rfl rfl (by kernel_rfl) (fun _ _ _ h => h) (Or.inl ⟨by rfl, ?_⟩) ?_ ?_
    rotate_left
    · intro w'; go_simp; with_reducible rfl
    rotate_left
    · simp only [Act.put, OpenRow.s1, OpenRow.s2, OpenRow.s3, i64_w, i32_w]; rfl
    refine take_ (i := 3) (N := some 46) (v := ?_) (a' := ?_) #[true, true, true, true, true, true, true, false, false, false, false, false, false] rfl rfl (by kernel_rfl) (fun _ _ _ h => h) (Or.inl ⟨by rfl, ?_⟩) hHeld ?_ ?_
    rotate_left
    · rintro w' ⟨s0, s1, s2⟩
      go_simp
      with_reducible rfl
    rotate_left
    · simp only [Act.put, OpenRow.s1, OpenRow.s2, OpenRow.s3, i64_w, i32_w]; rfl
    refine take_ (i := 7) (N := some 50) (v := ?_) (a' := ?_) #[true, true, true, true, true, true, true, true, false, false, false, false, false] rfl rfl (by kernel_rfl) (fun _ _ _ h => h) (Or.inl ⟨by rfl, ?_⟩) hHeld ?_ ?_
    rotate_left
    · rintro w' ⟨s0, s1, s2⟩
      go_simp
      with_reducible rfl
    rotate_left
    · simp only [Act.put, OpenRow.s1, OpenRow.s2, OpenRow.s3, i64_w, i32_w]; rfl
    refine pure_ (i := 8) (N := some 51) (v := ?_) (a' := ?_) #[true, true, true, true, true, true, true, true, true, false, false, false, false] rfl rfl (by kernel_rfl) (fun _ _ _ h => h) (Or.inl ⟨by rfl, ?_⟩) ?_ ?_
    rotate_left
    · intro w'; go_simp; with_reducible rfl
    rotate_left
    · simp only [Act.put, OpenRow.s1, OpenRow.s2, OpenRow.s3, i64_w, i32_w]; rfl
    refine pure_ (i := 9) (N := some 52) (v := ?_) (a' := ?_) #[true, true, true, true, true, true, true, true, true, true, false, false, false] rfl rfl (by kernel_rfl) (fun _ _ _ h => h) (Or.inl ⟨by rfl, ?_⟩) ?_ ?_
    rotate_left
    · intro w'; go_simp; with_reducible rfl
    rotate_left
    · simp only [Act.put, OpenRow.s1, OpenRow.s2, OpenRow.s3, i64_w, i32_w]; rfl
    refine take_ (i := 10) (N := some 53) (v := ?_) (a' := ?_) #[true, true, true, true, true, true, true, true, true, true, true, false, false] rfl rfl (by kernel_rfl) (fun _ _ _ h => h) (Or.inl ⟨by rfl, ?_⟩) hHeld ?_ ?_
    rotate_left
    · rintro w' ⟨s0, s1, s2⟩
      go_simp
      with_reducible rfl
    rotate_left
    · simp only [Act.put, OpenRow.s1, OpenRow.s2, OpenRow.s3, i64_w, i32_w]; rfl
    refine pure_ (i := 11) (N := some 54) (v := ?_) (a' := ?_) #[true, true, true, true, true, true, true, true, true, true, true, true, false] rfl rfl (by kernel_rfl) (fun _ _ _ h => h) (Or.inl ⟨by rfl, ?_⟩) ?_ ?_
    rotate_left
    · intro w'; go_simp; with_reducible rfl
    rotate_left
    · simp only [Act.put, OpenRow.s1, OpenRow.s2, OpenRow.s3, i64_w, i32_w]; rfl
    refine pure_ (i := 12) (N := some 2) (v := ?_) (a' := ?_) #[true, true, true, true, true, true, true, true, true, true, true, true, true] rfl rfl (by kernel_rfl) (fun _ _ _ h => h) (Or.inl ⟨by rfl, ?_⟩) ?_ ?_
    rotate_left
    · intro w'; go_simp; with_reducible rfl
    rotate_left
    · simp only [Act.put, OpenRow.s1, OpenRow.s2, OpenRow.s3, i64_w, i32_w]; rfl
    refine done_ (by kernel_rfl) ?_

    go_wp2
    go_ret
    exact ⟨by rw [EV.out]; rfl, by rw [ES.out]; exact blk_drew G3.out, C3.out.drew⟩
  · have hle : ¬ a1 ≤ (code.length : Int) := by omega
    clear HC1
    by_cases h3 : 3000 ≤ a
    · have EV := Aside0.mk (show byV code a seed = 0 by unfold byV; rw [if_neg hlt, if_pos h3])
      have ES := Aside0.mk (show byS code a seed = seed by unfold byS; rw [if_neg hlt, if_pos h3])
      have h4 : a1 > 3000 := by omega
      go_wp2
      refine start_ (n := 10) (S := fun w' => w'.cell? ⟨g, 0, none⟩ = some (.slice A code.length c) ∧ w'.cell? ⟨g, 1, none⟩ = some (.int .i64 a1)) (ds := []) #[false, false, false, false, false, false, false, false, false, false] (by kernel_rfl) rfl rfl ⟨k0, k1⟩ (fun hHeld => ?_)
      refine pure_ (i := 0) (N := some 10) (v := ?_) (a' := ?_) #[true, false, false, false, false, false, false, false, false, false] rfl rfl (by kernel_rfl) (fun _ _ _ h => h) (Or.inl ⟨by rfl, ?_⟩) ?_ ?_
      rotate_left
      · intro w'; go_simp; with_reducible rfl
      rotate_left
      · simp only [Act.put, OpenRow.s1, OpenRow.s2, OpenRow.s3, i64_w, i32_w]; rfl
      refine pure_ (i := 1) (N := some 11) (v := ?_) (a' := ?_) #[true, true, false, false, false, false, false, false, false, false] rfl rfl (by kernel_rfl) (fun _ _ _ h => h) (Or.inl ⟨by rfl, ?_⟩) ?_ ?_
      rotate_left
      · intro w'; go_simp; with_reducible rfl
      rotate_left
      · simp only [Act.put, OpenRow.s1, OpenRow.s2, OpenRow.s3, i64_w, i32_w]; rfl
      refine pure_ (i := 2) (N := some 12) (v := ?_) (a' := ?_) #[true, true, true, false, false, false, false, false, false, false] rfl rfl (by kernel_rfl) (fun _ _ _ h => h) (Or.inl ⟨by rfl, ?_⟩) ?_ ?_
      rotate_left
      · intro w'; go_simp; with_reducible rfl
      rotate_left
      · simp only [Act.put, OpenRow.s1, OpenRow.s2, OpenRow.s3, i64_w, i32_w]; rfl
      refine pure_ (i := 4) (N := some 14) (v := ?_) (a' := ?_) #[true, true, true, false, true, false, false, false, false, false] rfl rfl (by kernel_rfl) (fun _ _ _ h => h) (Or.inl ⟨by rfl, ?_⟩) ?_ ?_
      rotate_left
      · intro w'; go_simp; with_reducible rfl
      rotate_left
      · simp only [Act.put, OpenRow.s1, OpenRow.s2, OpenRow.s3, i64_w, i32_w]; rfl
      refine pure_ (i := 5) (N := some 15) (v := ?_) (a' := ?_) #[true, true, true, false, true, true, false, false, false, false] rfl rfl (by kernel_rfl) (fun _ _ _ h => h) (Or.inl ⟨by rfl, ?_⟩) ?_ ?_
      rotate_left
      · intro w'; go_simp; with_reducible rfl
      rotate_left
      · simp only [Act.put, OpenRow.s1, OpenRow.s2, OpenRow.s3, i64_w, i32_w]; rfl
      refine pure_ (i := 6) (N := some 16) (v := ?_) (a' := ?_) #[true, true, true, false, true, true, true, false, false, false] rfl rfl (by kernel_rfl) (fun _ _ _ h => h) (Or.inl ⟨by rfl, ?_⟩) ?_ ?_
      rotate_left
      · intro w'; go_simp; with_reducible rfl
      rotate_left
      · simp only [Act.put, OpenRow.s1, OpenRow.s2, OpenRow.s3, i64_w, i32_w]; rfl
      refine take_ (i := 3) (N := some 13) (v := ?_) (a' := ?_) #[true, true, true, true, true, true, true, false, false, false] rfl rfl (by kernel_rfl) (fun _ _ _ h => h) (Or.inl ⟨by rfl, ?_⟩) hHeld ?_ ?_
      rotate_left
      · rintro w' ⟨s0, s1⟩
        go_simp
        with_reducible rfl
      rotate_left
      · simp only [Act.put, OpenRow.s1, OpenRow.s2, OpenRow.s3, i64_w, i32_w]; rfl
      refine take_ (i := 7) (N := some 17) (v := ?_) (a' := ?_) #[true, true, true, true, true, true, true, true, false, false] rfl rfl (by kernel_rfl) (fun _ _ _ h => h) (Or.inl ⟨by rfl, ?_⟩) hHeld ?_ ?_
      rotate_left
      · rintro w' ⟨s0, s1⟩
        go_simp
        with_reducible rfl
      rotate_left
      · simp only [Act.put, OpenRow.s1, OpenRow.s2, OpenRow.s3, i64_w, i32_w]; rfl
      refine pure_ (i := 8) (N := some 18) (v := ?_) (a' := ?_) #[true, true, true, true, true, true, true, true, true, false] rfl rfl (by kernel_rfl) (fun _ _ _ h => h) (Or.inl ⟨by rfl, ?_⟩) ?_ ?_
      rotate_left
      · intro w'; go_simp; with_reducible rfl
      rotate_left
      · simp only [Act.put, OpenRow.s1, OpenRow.s2, OpenRow.s3, i64_w, i32_w]; rfl
      refine pure_ (i := 9) (N := some 19) (v := ?_) (a' := ?_) #[true, true, true, true, true, true, true, true, true, true] rfl rfl (by kernel_rfl) (fun _ _ _ h => h) (Or.inl ⟨by rfl, ?_⟩) ?_ ?_
      rotate_left
      · intro w'; go_simp; with_reducible rfl
      rotate_left
      · simp only [Act.put, OpenRow.s1, OpenRow.s2, OpenRow.s3, i64_w, i32_w]; rfl
      refine done_ (by kernel_rfl) ?_

      have G2 := Aside0.mk (blk_drew G1.out)
      have C2 := Aside0.mk C1.out.drew
      have n0 : w1.drew.cell? ⟨g, 0, none⟩ = some (.slice A code.length c) := k0
      have n1 : w1.drew.cell? ⟨g, 1, none⟩ = some (.int .i64 a1) := k1
      have n2 : w1.drew.cell? ⟨g, 2, none⟩ = some (.int .i64 seed) := k2
      have g2 : w1.drew.frozen? ⟨g, 2, none⟩ = false := f2
      clear k0 k1 k2 f2 C1 G1
      generalize w1.drew = w2 at *
      have k1 := n1
      clear n0 n1 n2 g2
      go_wp2
      go_ret
      exact ⟨by rw [EV.out]; rfl, by rw [ES.out]; exact G2.out, C2.out⟩
    · have EV := Aside0.mk (show byV code a seed = (seed * 1103515245 + 12345) % 2147483648 / 65536 % 256 by unfold byV; rw [if_neg hlt, if_neg h3])
      have ES := Aside0.mk (show byS code a seed = (seed * 1103515245 + 12345) % 2147483648 by unfold byS; rw [if_neg hlt, if_neg h3])
      have h4 : ¬ a1 > 3000 := by omega
      obtain ⟨s1, hs3⟩ : ∃ s1, s1 = seed * 1103515245 := ⟨_, rfl⟩
      have q1 : seed * 1103515245 = s1 := hs3.symm
      obtain ⟨s2, hs4⟩ : ∃ s2, s2 = s1 + 12345 := ⟨_, rfl⟩
      have q2 : s1 + 12345 = s2 := hs4.symm
      obtain ⟨s4, hs6⟩ : ∃ s4, s4 = s2 % 2147483648 := ⟨_, rfl⟩
      have q4 : s2 % 2147483648 = s4 := hs6.symm
      obtain ⟨s5, hs7⟩ : ∃ s5, s5 = s4 / 65536 := ⟨_, rfl⟩
      have q6 : s4 / 65536 = s5 := hs7.symm
      obtain ⟨s6, hs8⟩ : ∃ s6, s6 = s5 % 256 := ⟨_, rfl⟩
      have q7 : s5 % 256 = s6 := hs8.symm
      have w1_ : IntKind.i64.wrap s1 = s1 := by rw [IntKind.wrap_i64]; omega
      have w2_ : IntKind.i64.wrap s2 = s2 := by rw [IntKind.wrap_i64]; omega
      have w4_ : IntKind.i64.wrap s4 = s4 := by rw [IntKind.wrap_i64]; omega
      have w5_ : IntKind.i64.wrap s5 = s5 := by rw [IntKind.wrap_i64]; omega
      have w6_ : IntKind.i64.wrap s6 = s6 := by rw [IntKind.wrap_i64]; omega
      have q5 : s2.tmod 2147483648 = s4 := by rw [Int.tmod_eq_emod_of_nonneg (by omega)]; exact q4
      have q8 : s4.tdiv 65536 = s5 := by rw [Int.tdiv_eq_ediv_of_nonneg (by omega)]; exact q6
      have q9 : s5.tmod 256 = s6 := by rw [Int.tmod_eq_emod_of_nonneg (by omega)]; exact q7
      have z1 : 0 ≤ s2 := by omega
      have z4 : 0 ≤ s4 := by omega
      have z5 : 0 ≤ s5 := by omega
      rw [q1, q2, q4] at ES EV
      rw [q6, q7] at EV
      clear hs3 hs4 hs6 hs7 hs8
      go_wp2
      refine start_ (n := 10) (S := fun w' => w'.cell? ⟨g, 0, none⟩ = some (.slice A code.length c) ∧ w'.cell? ⟨g, 1, none⟩ = some (.int .i64 a1)) (ds := []) #[false, false, false, false, false, false, false, false, false, false] (by kernel_rfl) rfl rfl ⟨k0, k1⟩ (fun hHeld => ?_)
      refine pure_ (i := 0) (N := some 10) (v := ?_) (a' := ?_) #[true, false, false, false, false, false, false, false, false, false] rfl rfl (by kernel_rfl) (fun _ _ _ h => h) (Or.inl ⟨by rfl, ?_⟩) ?_ ?_
      rotate_left
      · intro w'; go_simp; with_reducible rfl
      rotate_left
      · simp only [Act.put, OpenRow.s1, OpenRow.s2, OpenRow.s3, i64_w, i32_w]; rfl
      refine pure_ (i := 1) (N := some 11) (v := ?_) (a' := ?_) #[true, true, false, false, false, false, false, false, false, false] rfl rfl (by kernel_rfl) (fun _ _ _ h => h) (Or.inl ⟨by rfl, ?_⟩) ?_ ?_
      rotate_left
      · intro w'; go_simp; with_reducible rfl
      rotate_left
      · simp only [Act.put, OpenRow.s1, OpenRow.s2, OpenRow.s3, i64_w, i32_w]; rfl
      refine pure_ (i := 2) (N := some 12) (v := ?_) (a' := ?_) #[true, true, true, false, false, false, false, false, false, false] rfl rfl (by kernel_rfl) (fun _ _ _ h => h) (Or.inl ⟨by rfl, ?_⟩) ?_ ?_
      rotate_left
      · intro w'; go_simp; with_reducible rfl
      rotate_left
      · simp only [Act.put, OpenRow.s1, OpenRow.s2, OpenRow.s3, i64_w, i32_w]; rfl
      refine pure_ (i := 4) (N := some 14) (v := ?_) (a' := ?_) #[true, true, true, false, true, false, false, false, false, false] rfl rfl (by kernel_rfl) (fun _ _ _ h => h) (Or.inl ⟨by rfl, ?_⟩) ?_ ?_
      rotate_left
      · intro w'; go_simp; with_reducible rfl
      rotate_left
      · simp only [Act.put, OpenRow.s1, OpenRow.s2, OpenRow.s3, i64_w, i32_w]; rfl
      refine pure_ (i := 5) (N := some 15) (v := ?_) (a' := ?_) #[true, true, true, false, true, true, false, false, false, false] rfl rfl (by kernel_rfl) (fun _ _ _ h => h) (Or.inl ⟨by rfl, ?_⟩) ?_ ?_
      rotate_left
      · intro w'; go_simp; with_reducible rfl
      rotate_left
      · simp only [Act.put, OpenRow.s1, OpenRow.s2, OpenRow.s3, i64_w, i32_w]; rfl
      refine pure_ (i := 6) (N := some 16) (v := ?_) (a' := ?_) #[true, true, true, false, true, true, true, false, false, false] rfl rfl (by kernel_rfl) (fun _ _ _ h => h) (Or.inl ⟨by rfl, ?_⟩) ?_ ?_
      rotate_left
      · intro w'; go_simp; with_reducible rfl
      rotate_left
      · simp only [Act.put, OpenRow.s1, OpenRow.s2, OpenRow.s3, i64_w, i32_w]; rfl
      refine take_ (i := 3) (N := some 13) (v := ?_) (a' := ?_) #[true, true, true, true, true, true, true, false, false, false] rfl rfl (by kernel_rfl) (fun _ _ _ h => h) (Or.inl ⟨by rfl, ?_⟩) hHeld ?_ ?_
      rotate_left
      · rintro w' ⟨s0, s1⟩
        go_simp
        with_reducible rfl
      rotate_left
      · simp only [Act.put, OpenRow.s1, OpenRow.s2, OpenRow.s3, i64_w, i32_w]; rfl
      refine take_ (i := 7) (N := some 17) (v := ?_) (a' := ?_) #[true, true, true, true, true, true, true, true, false, false] rfl rfl (by kernel_rfl) (fun _ _ _ h => h) (Or.inl ⟨by rfl, ?_⟩) hHeld ?_ ?_
      rotate_left
      · rintro w' ⟨s0, s1⟩
        go_simp
        with_reducible rfl
      rotate_left
      · simp only [Act.put, OpenRow.s1, OpenRow.s2, OpenRow.s3, i64_w, i32_w]; rfl
      refine pure_ (i := 8) (N := some 18) (v := ?_) (a' := ?_) #[true, true, true, true, true, true, true, true, true, false] rfl rfl (by kernel_rfl) (fun _ _ _ h => h) (Or.inl ⟨by rfl, ?_⟩) ?_ ?_
      rotate_left
      · intro w'; go_simp; with_reducible rfl
      rotate_left
      · simp only [Act.put, OpenRow.s1, OpenRow.s2, OpenRow.s3, i64_w, i32_w]; rfl
      refine pure_ (i := 9) (N := some 19) (v := ?_) (a' := ?_) #[true, true, true, true, true, true, true, true, true, true] rfl rfl (by kernel_rfl) (fun _ _ _ h => h) (Or.inl ⟨by rfl, ?_⟩) ?_ ?_
      rotate_left
      · intro w'; go_simp; with_reducible rfl
      rotate_left
      · simp only [Act.put, OpenRow.s1, OpenRow.s2, OpenRow.s3, i64_w, i32_w]; rfl
      refine done_ (by kernel_rfl) ?_

      have G2 := Aside0.mk (blk_drew G1.out)
      have C2 := Aside0.mk C1.out.drew
      have n0 : w1.drew.cell? ⟨g, 0, none⟩ = some (.slice A code.length c) := k0
      have n1 : w1.drew.cell? ⟨g, 1, none⟩ = some (.int .i64 a1) := k1
      have n2 : w1.drew.cell? ⟨g, 2, none⟩ = some (.int .i64 seed) := k2
      have g2 : w1.drew.frozen? ⟨g, 2, none⟩ = false := f2
      clear k0 k1 k2 f2 C1 G1
      generalize w1.drew = w2 at *
      have k1 := n1
      have k2 := n2
      have f2 := g2
      clear n0 n1 n2 g2
      have G3 := Aside0.mk (blk_put G2.out 2 (.int .i64 s4) (cs' := #[.slice A code.length c, .int .i64 a1, .int .i64 s4]) rfl)
      have C3 := Aside0.mk (C2.out.set 2 (.int .i64 s4))
      go_wp2
      go_ret
      exact ⟨by rw [EV.out]; rfl, by rw [ES.out]; exact G3.out, C3.out⟩


/-! ### spec_l00Src_next: function 97 -/
set_option maxHeartbeats 1000000 in
set_option maxRecDepth 100000 in
theorem l00next.calls (g : Nat) (A : Option Addr) (c : Nat) (code : List Int) (k : Nat) (n : Int) (w0 w : World) (hg : w.heap[g]? = some (.cells #[.slice A code.length c, .int .i64 (k : Int), .int .i64 (sdN code k)] 86 (0, 0)))
    (hC : Kd.C (Kd.int .u8) w0 A code.length code) (hB : Below w0.heap.size w0 w) (hgb : w0.heap.size ≤ g) (ho : Ok 256 code) (hk : k < 1000000) (hl : code.length < 1099511627776) (hn : 2 ≤ n) (hn2 : n ≤ 256) :
    Calls Try.prog 97 #[.pointer (some ⟨g, 0, none⟩), .int .i64 n] w fun e w' => e = .returned (.int .i64 (byN code k % n)) ∧ w'.heap[g]? = some (.cells #[.slice A code.length c, .int .i64 ((k + 1 : Nat) : Int), .int .i64 (sdN code (k + 1))] 86 (0, 0)) ∧ Ch g w w' := by
  have HY := Aside0.mk (l00byte.calls g A c code k (sdN code k) w0 w hg hC hB hgb ho hk (sdN_range code k) hl)
  have hr := byN_range code ho k
  have hr1 := hr.1
  have hr2 := hr.2
  clear hr
  have HV := Aside0.mk (show byV code k (sdN code k) = byN code k from rfl)
  have HS := Aside0.mk (show byS code k (sdN code k) = sdN code (k + 1) from rfl)
  rw [HV.out, HS.out] at HY
  generalize byN code k = b at *
  obtain ⟨r, hr⟩ : ∃ r, r = b % n := ⟨_, rfl⟩
  have q1 : b % n = r := hr.symm
  have q2 : b.tmod n = r := by rw [Int.tmod_eq_emod_of_nonneg (by omega)]; exact q1
  have n0 : ¬ n = 0 := by omega
  have n1 : ¬ n ≤ 1 := by omega
  have r0 : 0 ≤ r := by rw [hr]; exact Int.emod_nonneg _ n0
  have r1 : r < n := by rw [hr]; exact Int.emod_lt_of_pos _ (by omega)
  have wr_ : IntKind.i64.wrap r = r := by rw [IntKind.wrap_i64]; omega
  rw [q1]
  clear HV HS hg hC hB hr
  go_enter Try.func97, Try.ntmps97
  go_wp2_with ((with_reducible refine (HY.out).mono ?_); rintro e w1 ⟨rfl, hS, hc⟩; have G1 := Aside0.mk hS; have C1 := Aside0.mk hc; clear hS hc)
  go_ret
  exact ⟨rfl, G1.out, C1.out⟩


/-! ### spec_l00Src_element: function 71 -/
set_option maxHeartbeats 4000000 in
set_option maxRecDepth 100000 in
theorem l00element.calls (g : Nat) (A : Option Addr) (c : Nat) (code : List Int) (w0 w : World) (hg : w.heap[g]? = some (.cells #[.slice A code.length c, .int .i64 0, .int .i64 (sdN code 0)] 86 (0, 0)))
    (hC : Kd.C (Kd.int .u8) w0 A code.length code) (hB : Below w0.heap.size w0 w) (hgb : w0.heap.size ≤ g) (ho : Ok 256 code) (hl : code.length < 1099511627776) :
    Calls Try.prog 71 #[.pointer (some ⟨g, 0, none⟩)] w fun e w' => ∃ v, e = .returned v ∧ Kd.R (Kd.int .u8) 5 w' w0.heap.size (fun _ => True) v (limbs 256 32 (elN code)) ∧ Below w0.heap.size w0 w' := by
  have HN := Aside0.mk (fun k n W (hW : W.heap[g]? = some (.cells #[.slice A code.length c, .int .i64 ((k : Nat) : Int), .int .i64 (sdN code k)] 86 (0, 0))) (hb : Below w0.heap.size w0 W) (hk : k < 1000000) (h1 : 2 ≤ n) (h2 : n ≤ 256) => l00next.calls g A c code k n w0 W hW hC hb hgb ho hk hl h1 h2)
  have HGB := Aside0.mk hgb
  have HGL := Aside0.mk (blk_lt hg)
  have HB := Aside0.mk hB
  have HG := Aside0.mk hg
  have HWB := Aside0.mk (hB.size)
  have R0 := byN_range code ho 0
  have R1 := byN_range code ho 1
  have HOK := Aside0.mk ho
  clear hg hC hB hgb ho
  by_cases hv0 : byN code 0 % 6 = 0
  · have HE := Aside0.mk (elN_0 code hv0)
    have HN0 := Aside0.mk (fun W (h1 : W.heap[g]? = some (.cells #[.slice A code.length c, .int .i64 0, .int .i64 (sdN code 0)] 86 (0, 0))) (h2 : Below w0.heap.size w0 W) => HN.out 0 6 W h1 h2 (by omega) (by omega) (by omega))
    rw [hv0] at HN0
    obtain ⟨v, hv⟩ : ∃ v, v = byN code 1 % 5 := ⟨_, rfl⟩
    have HN1 := Aside0.mk (fun W (h1 : W.heap[g]? = some (.cells #[.slice A code.length c, .int .i64 ((0 + 1 : Nat) : Int), .int .i64 (sdN code (0 + 1))] 86 (0, 0))) (h2 : Below w0.heap.size w0 W) => HN.out 1 5 W h1 h2 (by omega) (by omega) (by omega))
    rw [← hv] at HN1 HE
    have v0 : 0 ≤ v := by omega
    have v5 : v < 5 := by omega
    have wv : IntKind.u8.wrap v = v := by rw [IntKind.wrap_u8]; omega
    have HSF := Aside0.mk (show (List.replicate 32 (0 : Int)).set 0 v = limbs 256 32 (elN code) by
      have := set_first v.toNat (by omega)
      rw [show ((v.toNat : Nat) : Int) = v by omega] at this
      rw [this, HE.out])
    clear hv0 HN HE R0 R1 hv
    generalize limbs 256 32 (elN code) = ls at *
    go_enter Try.func71, Try.ntmps71
    go_wp2_with (first
      | ((with_reducible refine gate_dst (N := 5) rfl ?_); refine Kd.R_make (Kd.int .u8) _ 5 rfl (N := 5) rfl 22 _ _ rfl (32 : Int) rfl rfl Try.underlying22 (.int .u8 0) 1 info5 rfl (by decide) (by omega) 0 (ok := fun _ => True) (okp := fun _ => True) rfl (fun _ hk => hk) trivial (by decide) (by decide) (Below.refl _ _) (Nat.le_refl _) ?_; intro v148 w5 ho6 hb hg_ hnew_; have HO := Aside0.mk ho6; have B5 := Aside0.mk (below_step HB.out hb); have G5 := Aside0.mk (blk_below HG.out hb); clear ho6 hb hg_ hnew_; obtain ⟨go, co, eo, gb, gl, cl, HGc⟩ := Kd.R_form HO.out (by simp); rw [List.length_replicate, show Int.toNat 32 = 32 from rfl] at eo; subst eo; have GB := Aside0.mk gb; clear gb gl HGc)
      | ((with_reducible refine (HN0.out _ G5.out B5.out).mono ?_); rintro e w6 ⟨rfl, hS, hc⟩; have G6 := Aside0.mk hS; have B6 := Aside0.mk (hc.bel _ _ B5.out HGB.out); have R6 := Aside0.mk (R_ch HO.out hc HGL.out); clear hS hc)
      | ((with_reducible refine (HN1.out _ G6.out B6.out).mono ?_); rintro e w7 ⟨rfl, hS, hc⟩; have B7 := Aside0.mk (hc.bel _ _ B6.out HGB.out); have R7 := Aside0.mk (R_ch R6.out hc HGL.out); obtain ⟨hx0, hf0⟩ := Kd.R_celln 0 R7.out (0 : Int) (by omega) (by omega); have HP := Aside0.mk (Kd.R_putg R7.out (0 : Int) v).1; simp only [Int.toNat_zero] at hx0 hf0 HP; clear hS hc))
    go_ret
    exact ⟨_, rfl, by rw [← HSF.out]; exact Kd.R_lower HP.out HWB.out, below_set B7.out (Nat.le_trans HWB.out GB.out)⟩
  · by_cases hv1 : byN code 0 % 6 = 1
    · have HE := Aside0.mk (elN_1 code hv0 hv1)
      have HN0 := Aside0.mk (fun W (h1 : W.heap[g]? = some (.cells #[.slice A code.length c, .int .i64 0, .int .i64 (sdN code 0)] 86 (0, 0))) (h2 : Below w0.heap.size w0 W) => HN.out 0 6 W h1 h2 (by omega) (by omega) (by omega))
      rw [hv1] at HN0
      obtain ⟨n, hn⟩ : ∃ n : Nat, n = 1 + (byN code 1 % 20).toNat := ⟨_, rfl⟩
      obtain ⟨v, hv⟩ : ∃ v, v = byN code 1 % 20 := ⟨_, rfl⟩
      have HN1 := Aside0.mk (fun W (h1 : W.heap[g]? = some (.cells #[.slice A code.length c, .int .i64 ((0 + 1 : Nat) : Int), .int .i64 (sdN code (0 + 1))] 86 (0, 0))) (h2 : Below w0.heap.size w0 W) => HN.out 1 20 W h1 h2 (by omega) (by omega) (by omega))
      rw [← hn] at HE
      rw [← hv] at HN1 hn
      have v0 : 0 ≤ v := by omega
      have v5 : v < 20 := by omega
      have q1 : 1 + v = (n : Int) := by omega
      have hn20 : n ≤ 20 := by omega
      have HS := Aside0.mk (fun W => spec_l05Small.calls n W (by omega))
      have HU := Aside0.mk (fun W => spec_l05Sub.calls 0 n W (by decide) (Nat.lt_of_le_of_lt hn20 (by decide)))
      rw [show fe 0 = [0, 0, 0, 0, 0, 0, 0, 0, 0, 0, 0, 0, 0, 0, 0, 0] from by decide] at HU
      have HM := Aside0.mk (fun c (h : (c + n) % PP = 0 % PP) => show limbs 256 32 (c % PP) = limbs 256 32 (elN code) by rw [neg_mod c n (by omega) (Nat.lt_of_le_of_lt hn20 (by decide)) h, HE.out])
      clear hv0 hv1 HN HE R0 R1 hv hn
      generalize limbs 256 32 (elN code) = ls at *
      go_enter Try.func71, Try.ntmps71
      go_wp2_with (first
        | ((with_reducible refine gate_dst (N := 5) rfl ?_); refine Kd.R_make (Kd.int .u8) _ 5 rfl (N := 5) rfl 22 _ _ rfl (32 : Int) rfl rfl Try.underlying22 (.int .u8 0) 1 info5 rfl (by decide) (by omega) 0 (ok := fun _ => True) (okp := fun _ => True) rfl (fun _ hk => hk) trivial (by decide) (by decide) (Below.refl _ _) (Nat.le_refl _) ?_; intro v148 w5 ho6 hb hg_ hnew_; have HO := Aside0.mk ho6; have B5 := Aside0.mk (below_step HB.out hb); have G5 := Aside0.mk (blk_below HG.out hb); clear ho6 hb hg_ hnew_; obtain ⟨go, co, eo, gb, gl, cl, HGc⟩ := Kd.R_form HO.out (by simp); rw [List.length_replicate, show Int.toNat 32 = 32 from rfl] at eo; subst eo; have GB := Aside0.mk gb; clear gb gl HGc)
        | ((with_reducible refine (HN0.out _ G5.out B5.out).mono ?_); rintro e w6 ⟨rfl, hS, hc⟩; have G6 := Aside0.mk hS; have B6 := Aside0.mk (hc.bel _ _ B5.out HGB.out); clear hS hc)
        | ((with_reducible refine (HN1.out _ G6.out B6.out).mono ?_); rintro e w7 ⟨rfl, hS, hc⟩; have B7 := Aside0.mk (hc.bel _ _ B6.out HGB.out); clear hS hc)
        | ((with_reducible refine (HS.out _).mono ?_); rintro e w8 ⟨rfl, hb⟩; have B8 := Aside0.mk (below_step B7.out hb); clear hb)
        | ((refine (HU.out _).mono ?_); rintro e w9 ⟨d, hd, hm, rfl, hb⟩; have B9 := Aside0.mk (below_step B8.out hb); clear hb)
        | ((with_reducible refine (bytes_fe d _ hd).mono ?_); rintro e w10 ⟨v, rfl, hR, hb⟩; rw [HM.out d hm] at hR; have HR := Aside0.mk (Kd.R_lower hR B9.out.size); have B10 := Aside0.mk (below_step B9.out hb); clear hb hR))
      go_ret
      exact ⟨_, rfl, HR.out, B10.out⟩
    · have HE := Aside0.mk (elN_2 code hv0 hv1)
      have HN0 := Aside0.mk (fun W (h1 : W.heap[g]? = some (.cells #[.slice A code.length c, .int .i64 0, .int .i64 (sdN code 0)] 86 (0, 0))) (h2 : Below w0.heap.size w0 W) => HN.out 0 6 W h1 h2 (by omega) (by omega) (by omega))
      have HLN := Aside0.mk (fun k => elL_length code k)
      have HLO := Aside0.mk (elL_ok code 32)
      have HLB := Aside0.mk (bval_lt32 (elL code 32) (elL_ok code 32) (elL_length code 32))
      obtain ⟨x, hx⟩ : ∃ x, x = bval (elL code 32) := ⟨_, rfl⟩
      rw [HE.out, ← hx]
      rw [← hx] at HLB
      have HBF := Aside0.mk (fun W => bytes_fe x W HLB.out)
      have HXX := Aside0.mk hx
      clear hx
      generalize byN code 0 % 6 = v0 at *
      generalize limbs 256 32 (x % PP) = ls at *
      have b0 : (v0 == 0) = false := beq_eq_false_iff_ne.mpr hv0
      have b1 : (v0 == 1) = false := beq_eq_false_iff_ne.mpr hv1
      clear HE R0 R1
      go_enter Try.func71, Try.ntmps71
      go_wp2_with (first
        | ((with_reducible refine gate_dst (N := 5) rfl ?_); refine Kd.R_make (Kd.int .u8) _ 5 rfl (N := 5) rfl 22 _ _ rfl (32 : Int) rfl rfl Try.underlying22 (.int .u8 0) 1 info5 rfl (by decide) (by omega) 0 (ok := fun _ => True) (okp := fun _ => True) rfl (fun _ hk => hk) trivial (by decide) (by decide) (Below.refl _ _) (Nat.le_refl _) ?_; intro v148 w5 ho6 hb hg_ hnew_; have HO := Aside0.mk ho6; have B5 := Aside0.mk (below_step HB.out hb); have G5 := Aside0.mk (blk_below HG.out hb); clear ho6 hb hg_ hnew_; obtain ⟨go, co, eo, gb, gl, cl, HGc⟩ := Kd.R_form HO.out (by simp); rw [List.length_replicate, show Int.toNat 32 = 32 from rfl] at eo; subst eo; have GB := Aside0.mk gb; clear gb gl HGc)
        | ((with_reducible refine (HN0.out _ G5.out B5.out).mono ?_); rintro e w6 ⟨rfl, hS, hc⟩; have G6 := Aside0.mk hS; have B6 := Aside0.mk (hc.bel _ _ B5.out HGB.out); have R6 := Aside0.mk (R_ch HO.out hc HGL.out); clear hS hc))
      clear HO B5 G5 hv0 hv1 b0 b1
      go_loopg [4] 33 (fun gg s4 wr => ∃ k : Nat, k ≤ 32 ∧ 32 - k ≤ gg ∧ s4 = .int .i64 k ∧ Aside0 (wr.heap[g]? = some (.cells #[.slice A code.length c, .int .i64 ((k + 1 : Nat) : Int), .int .i64 (sdN code (k + 1))] 86 (0, 0))) ∧ Aside0 (Kd.R (Kd.int .u8) 5 wr w.heap.size (fun _ => True) (.slice (some ⟨go, 0, none⟩) 32 co) (elL code k)) ∧ Aside0 (Below w0.heap.size w0 wr))
      case atStart => exact ⟨0, by omega, by omega, rfl, G6, R6, B6⟩
      case round =>
        obtain ⟨k, hk, hg, rfl, G7, R7, B7⟩ := hrel
        by_cases hlt : k < 32
        · have hlti : (k : Int) < 32 := by omega
          obtain ⟨r, hr⟩ : ∃ r, r = byN code (k + 1) % 256 := ⟨_, rfl⟩
          obtain ⟨r2, hr2⟩ : ∃ r2, r2 = r % 256 := ⟨_, rfl⟩
          have HN2 := Aside0.mk (HN.out (k + 1) 256 _ G7.out B7.out (by omega) (by omega) (by omega))
          rw [← hr] at HN2
          have wr_ : IntKind.u8.wrap r = r2 := by rw [IntKind.wrap_u8]; omega
          have EQ := Aside0.mk (show elL code (k + 1) = (elL code k).set k r2 by rw [hr2, hr]; rfl)
          clear hr hr2
          go_wp2_with ((with_reducible refine (HN2.out).mono ?_); rintro e w8 ⟨rfl, hS, hc⟩; have G8 := Aside0.mk hS; have B8 := Aside0.mk (hc.bel _ _ B7.out HGB.out); have R8 := Aside0.mk (R_ch R7.out hc HGL.out); obtain ⟨hx0, hf0⟩ := Kd.R_celln 0 R8.out (k : Int) (by omega) (by omega); have HP := Aside0.mk (Kd.R_putg R8.out (k : Int) r2).1; simp only [Int.toNat_natCast] at hx0 hf0 HP; clear hS hc)
          go_roundg (32 - (k + 1))
          case measure => omega
          case rel => exact ⟨k + 1, by omega, by omega, by go_num, ⟨blk_far G8.out (p := ⟨go, k, none⟩) (by show g ≠ go; have := GB.out; have := HGL.out; omega) _⟩, by rw [EQ.out]; exact HP, ⟨below_set B8.out (Nat.le_trans HWB.out GB.out)⟩⟩
        · have hneg : ¬ (k : Int) < 32 := by omega
          obtain rfl : k = 32 := by omega
          have HC2 := Aside0.mk (Kd.R_reads' R7.out).2.2
          have HOF := Aside0.mk (fun W (h : Kd.C (Kd.int .u8) W (some ⟨go, 0, none⟩) (elL code 32).length (elL code 32)) => spec_l05Of.calls (some ⟨go, 0, none⟩) co (elL code 32) W h (HLN.out 32) HLO.out)
          rw [ofS_fe _ HLO.out (HLN.out 32)] at HOF
          rw [HLN.out 32] at HOF HC2
          rw [← HXX.out] at HOF
          go_wp2_with (first
            | ((with_reducible refine (HOF.out _ HC2.out).mono ?_); rintro e w9 ⟨rfl, hb⟩; have B9 := Aside0.mk (below_step B7.out hb); clear hb)
            | ((with_reducible refine (HBF.out _).mono ?_); rintro e w10 ⟨v, rfl, hR, hb⟩; have HR := Aside0.mk (Kd.R_lower hR B9.out.size); have B10 := Aside0.mk (below_step B9.out hb); clear hb hR))
          go_ret
          exact ⟨_, rfl, HR.out, B10.out⟩


/-! ### spec_ElementOf: function 35 -/
def spec_ElementOf.f (l0 : List Int) : Option (List Int) := if okB l0 && decide (l0.length < 1099511627776) then some (limbs 256 32 (elN l0)) else none
set_option maxHeartbeats 1000000 in
set_option maxRecDepth 100000 in
theorem spec_ElementOf.calls (A0 : Option Addr) (c0 : Nat) (l0 : List Int) (r : List Int) (w : World) (hr0 : Kd.C (Kd.int .u8) w A0 l0.length l0) (hc0 : l0.length ≤ c0) (h : spec_ElementOf.f l0 = some r) :
    Calls Try.prog 35 #[.slice A0 l0.length c0] w fun e w' => ∃ v0_ : Value, e = .returned (v0_) ∧ Kd.R (Kd.int .u8) 5 w' w.heap.size (fun _ => True) v0_ r ∧ Below w.heap.size w w' := by
  unfold spec_ElementOf.f at h
  by_cases ho : (okB l0 && decide (l0.length < 1099511627776)) = true
  · rw [if_pos ho] at h
    obtain rfl := Option.some.inj h
    clear h
    rw [Bool.and_eq_true, decide_eq_true_iff] at ho
    have HS := Aside0.mk (l00Source.calls A0 c0 l0 w ho.2)
    have HE := Aside0.mk (l00element.calls w.heap.size A0 c0 l0 w (w.alloc (.cells #[.slice A0 l0.length c0, .int .i64 0, .int .i64 (sdN l0 0)] 86)) (blk_new w _) hr0 (below_alloc (Below.refl _ _) _) (Nat.le_refl _) (okB_ok l0 ho.1) ho.2)
    clear hr0 ho
    generalize limbs 256 32 (elN l0) = ls at *
    generalize sdN l0 0 = s0 at *
    go_enter Try.func35, Try.ntmps35
    go_wp2_with (first
      | ((with_reducible refine (HS.out).mono ?_); rintro e w1 ⟨rfl, rfl⟩)
      | ((with_reducible refine (HE.out).mono ?_); rintro e w2 ⟨v, rfl, hR, hb⟩; have HR := Aside0.mk hR; have HB := Aside0.mk hb; clear hR hb))
    go_ret
    exact ⟨_, rfl, HR.out, HB.out⟩
  · rw [if_neg ho] at h; cases h


/-! ### spec_l05Is: function 40 -/
def spec_l05Is.f (l0 : List Int) : Option (Bool) := if okB l0 then some (isEl l0) else none
set_option maxHeartbeats 400000 in
set_option maxRecDepth 100000 in
theorem spec_l05Is.calls (A0 : Option Addr) (c0 : Nat) (l0 : List Int) (r : Bool) (w : World) (hr0 : Kd.C (Kd.int .u8) w A0 l0.length l0) (hc0 : l0.length ≤ c0) (h : spec_l05Is.f l0 = some r) :
    Calls Try.prog 40 #[.slice A0 l0.length c0] w fun e w' => e = .returned (.bool r) ∧ Below w.heap.size w w' := by
  unfold spec_l05Is.f at h
  by_cases ho : okB l0 = true
  · rw [if_pos ho] at h
    obtain rfl := Option.some.inj h
    clear h
    by_cases hl : l0.length = 32
    · have ok := okB_ok l0 ho
      have hx := bval_lt32 l0 ok hl
      have e : isEl l0 = ((strOfNums (limbs 256 32 (bval l0 % PP))).toList == (strOfNums l0).toList) := by
        have e1 := limbs_lval 256 (by decide) l0 ok
        rw [hl] at e1
        unfold isEl
        rw [decide_eq_true hl, Bool.true_and]
        by_cases hp : bval l0 < PP
        · rw [Nat.mod_eq_of_lt hp, decide_eq_true hp, show limbs 256 32 (bval l0) = l0 from e1, beq_self_eq_true]
        · rw [decide_eq_false hp]
          symm
          rw [beq_eq_false_iff_ne]
          intro hs
          have e2 := str_inj (limbs_ok _ (by decide) _ _) ok hs
          have e3 := lval_limbs 256 (by decide) 32 (bval l0 % PP)
          rw [e2] at e3
          have e4 := bval_cast l0 ok
          have h5 := Nat.mod_lt (bval l0) (show 0 < PP by decide)
          have h6 : PP < 256 ^ 32 := by decide
          rw [Nat.mod_eq_of_lt (by omega)] at e3
          omega
      have CV := Aside0.mk (fun (W : World) (hb : Below w.heap.size w W) => conv_C (P := Try.prog) 22 9 5 Try.underlying22 Try.underlying5 Try.underlying9 W A0 c0 l0 (Kd.C_below hr0 hb) (by omega))
      have HC1 := Aside0.mk (fun (W : World) (hb : Below w.heap.size w W) => spec_l05Of.calls A0 c0 l0 W (Kd.C_below hr0 hb) hl ok)
      have HC2 := Aside0.mk (fun (W : World) => spec_l05Bytes.calls (fe (bval l0)) W (fe_bd _) (fe_length _) (by rw [lstN_fe _ hx]; exact fe_ok _))
      rw [bys_fe _ hx] at HC2
      rw [ofS_fe l0 ok hl, hl] at HC1
      rw [hl] at CV
      rw [hl, e]
      clear e hx ok ho hr0 hc0 hl
      have HB := Aside0.mk (Below.refl w.heap.size w)
      generalize strOfNums l0 = s0 at *
      generalize bval l0 = x at *
      go_enter Try.func40, Try.ntmps40
      go_wp2
      refine start_ (n := 8) (S := fun w' => (convert 22 9 (.slice A0 32 c0)).run Try.prog w' = .ok (.string s0) w') (ds := []) #[false, false, false, false, false, false, false, false] (by kernel_rfl) rfl rfl (CV.out _ (below_drew HB.out)) (fun hHeld => ?_)
      refine pure_ (i := 0) (N := some 6) (v := ?_) (a' := ?_) #[true, false, false, false, false, false, false, false] rfl rfl (by kernel_rfl) (fun _ _ _ h => h) (Or.inl ⟨by rfl, ?_⟩) ?_ ?_
      rotate_left
      · intro w'
        go_simp
        with_reducible rfl
      rotate_left
      · simp only [Act.put, List.setIfInBounds_toArray, List.set_cons_zero, List.set_cons_succ, i64_w, i32_w]
        rfl
      refine pure_ (i := 4) (N := some 10) (v := ?_) (a' := ?_) #[true, false, false, false, true, false, false, false] rfl rfl (by kernel_rfl) (fun _ _ _ h => h) (Or.inl ⟨by rfl, ?_⟩) ?_ ?_
      rotate_left
      · intro w'
        go_simp
        with_reducible rfl
      rotate_left
      · simp only [Act.put, List.setIfInBounds_toArray, List.set_cons_zero, List.set_cons_succ, i64_w, i32_w]
        rfl
      refine take_ (i := 5) (N := some 11) (v := ?_) (a' := ?_) #[true, false, false, false, true, true, false, false] rfl rfl (by kernel_rfl) (fun _ _ _ h => h) (Or.inl ⟨by rfl, ?_⟩) hHeld ?_ ?_
      rotate_left
      · intro w' s0
        go_simp
        with_reducible rfl
      rotate_left
      · simp only [Act.put, List.setIfInBounds_toArray, List.set_cons_zero, List.set_cons_succ, i64_w, i32_w]
        rfl
      refine one_ (i := 1) (N := some 7) #[true, true, false, false, true, true, false, false] rfl rfl (by kernel_rfl) (by decide) (fun K hK => ?_)
      refine goes_ Try.func48 (by kernel_rfl) rfl #[.slice A0 32 c0] (by rfl) rfl rfl (by simp only [List.map_toArray, List.map_cons, List.map_nil]; rfl) ?_
      with_reducible refine (HC1.out _ (below_drew HB.out)).mono ?_
      rintro e w3 ⟨rfl, hb⟩
      refine ⟨_, rfl, ?_⟩
      have B1 := Aside0.mk (below_step (below_drew HB.out) hb)
      clear hb
      refine hK.out _ _ (CV.out _ B1.out) (fun hHeld => ?_)
      clear hK K
      refine norm_ (a' := ?_) ?_ ?_
      rotate_left
      · show Act.put _ (some 7) _ = _
        simp only [Act.put, List.setIfInBounds_toArray, List.set_cons_zero, List.set_cons_succ, i64_w, i32_w]
        rfl
      refine one_ (i := 2) (N := some 8) #[true, true, true, false, true, true, false, false] rfl rfl (by kernel_rfl) (by decide) (fun K hK => ?_)
      refine goes_ Try.func46 (by kernel_rfl) rfl #[.agg (arr .i64 (fe x))] (by rfl) rfl rfl (by simp only [List.map_toArray, List.map_cons, List.map_nil]; rfl) ?_
      with_reducible refine (HC2.out _).mono ?_
      rintro e w4 ⟨v, rfl, ho, hb⟩
      refine ⟨_, rfl, ?_⟩
      have B2 := Aside0.mk (below_step B1.out hb)
      obtain ⟨A5, c5, e5⟩ := Kd.R_slice ho
      rw [limbs_length] at e5
      subst e5
      have hcv := conv_C 22 9 5 Try.underlying22 Try.underlying5 Try.underlying9 w4 A5 c5 (limbs 256 32 (x % PP)) (Kd.R_reads' ho).2.2 (by rw [limbs_length]; omega)
      rw [limbs_length] at hcv
      clear ho hb
      refine hK.out _ _ (CV.out _ B2.out) (fun hHeld => ?_)
      clear hK K
      refine norm_ (a' := ?_) ?_ ?_
      rotate_left
      · show Act.put _ (some 8) _ = _
        simp only [Act.put, List.setIfInBounds_toArray, List.set_cons_zero, List.set_cons_succ, i64_w, i32_w]
        rfl
      refine one_ (i := 3) (N := some 9) #[true, true, true, true, true, true, false, false] rfl rfl (by kernel_rfl) (by decide) (fun K hK => ?_)
      refine value_ (w1 := ?_) (v := ?_) (by rfl) rfl ?_ ?_
      rotate_left 2
      · go_simp
        constructor
        · rfl
        · rfl
      refine hK.out _ _ (CV.out _ B2.out) (fun hHeld => ?_)
      clear hK K
      refine norm_ (a' := ?_) ?_ ?_
      rotate_left
      · show Act.put _ (some 9) _ = _
        simp only [Act.put, List.setIfInBounds_toArray, List.set_cons_zero, List.set_cons_succ, i64_w, i32_w]
        rfl
      refine pure_ (i := 6) (N := some 12) (v := ?_) (a' := ?_) #[true, true, true, true, true, true, true, false] rfl rfl (by kernel_rfl) (fun _ _ _ h => h) (Or.inl ⟨by rfl, ?_⟩) ?_ ?_
      rotate_left
      · intro w'
        go_simp
        with_reducible rfl
      rotate_left
      · simp only [Act.put, List.setIfInBounds_toArray, List.set_cons_zero, List.set_cons_succ, i64_w, i32_w]
        rfl
      refine pure_ (i := 7) (N := some 2) (v := ?_) (a' := ?_) #[true, true, true, true, true, true, true, true] rfl rfl (by kernel_rfl) (fun _ _ _ h => h) (Or.inl ⟨by rfl, ?_⟩) ?_ ?_
      rotate_left
      · intro w'
        go_simp
        with_reducible rfl
      rotate_left
      · simp only [Act.put, List.setIfInBounds_toArray, List.set_cons_zero, List.set_cons_succ, i64_w, i32_w]
        rfl
      refine done_ (by kernel_rfl) ?_

      go_wp2
      go_ret
      exact ⟨rfl, B2.out⟩
    · have e : isEl l0 = false := by unfold isEl; rw [decide_eq_false hl]; rfl
      rw [e]
      have hll : ¬ (l0.length : Int) = 32 := by omega
      go_enter Try.func40, Try.ntmps40
      go_wp2
      go_ret
      exact ⟨rfl, Below.refl _ _⟩
  · rw [if_neg ho] at h; cases h


end Go.Proofs.Ytijeackkgcnbgaa.XH
