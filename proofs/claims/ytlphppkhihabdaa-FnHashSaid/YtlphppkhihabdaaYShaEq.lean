/- The reference's digest and the program's are one: plain Lean on lists of whole numbers. -/
import Derived.Test.YtlphppkhihabdaaYShaS
namespace Go.Proofs.Ytlphppkhihabdaa.ShaA
open Go Go.RowKit Go.Proofs.Ytlphppkhihabdaa.Limb Go.Proofs.Ytlphppkhihabdaa.Arr Go.Proofs.YtlphppkhihabdaaW.PrintWords Go.Proofs.YtlphppkhihabdaaW.PrintMore
theorem b8_be8 (x : Int) : b8S x 8 = be8 x := rfl
theorem be8_zero : be8 0 = List.replicate 8 0 := by decide
theorem padS_padL (l : List Int) : padS l = padL l := by
  unfold padS padL
  rw [be8_zero, b8_be8]
theorem byte_wrap (x : Int) (h0 : 0 ≤ x) (h1 : x < 18446744073709551616) : be8 (IntKind.i64.wrap x) = be8 x := by
  have hw : IntKind.i64.wrap x = x ∨ IntKind.i64.wrap x = x - 18446744073709551616 := by
    rw [IntKind.wrap_i64]; omega
  rcases hw with hw | hw
  · rw [hw]
  · rw [hw]
    have e (n : Nat) (m : Int) (hs : ∀ y, shr .i64 y n = y / m) (hm : ∃ c, 18446744073709551616 = 256 * c * m ∧ 0 < m) : shr .i64 (x - 18446744073709551616) n % 256 = shr .i64 x n % 256 := by
      obtain ⟨c, hc, hp⟩ := hm
      rw [hs, hs, hc, Int.sub_mul_ediv_right _ _ (by omega)]
      omega
    unfold be8
    congr 1
    · exact e 56 72057594037927936 (fun _ => rfl) ⟨1, by decide, by decide⟩
    congr 1
    · exact e 48 281474976710656 (fun _ => rfl) ⟨256, by decide, by decide⟩
    congr 1
    · exact e 40 1099511627776 (fun _ => rfl) ⟨65536, by decide, by decide⟩
    congr 1
    · exact e 32 4294967296 (fun _ => rfl) ⟨16777216, by decide, by decide⟩
    congr 1
    · exact e 24 16777216 (fun _ => rfl) ⟨4294967296, by decide, by decide⟩
    congr 1
    · exact e 16 65536 (fun _ => rfl) ⟨1099511627776, by decide, by decide⟩
    congr 1
    · exact e 8 256 (fun _ => rfl) ⟨281474976710656, by decide, by decide⟩
    congr 1
    · exact e 0 1 (fun y => rfl) ⟨72057594037927936, by decide, by decide⟩
/-- numbers of 64 bits -/
def U64 (l : List Int) : Prop := ∀ x, x ∈ l → 0 ≤ x ∧ x < 18446744073709551616
theorem w6_range (x : Int) : 0 ≤ w6 x ∧ w6 x < 18446744073709551616 := by unfold w6; rw [IntKind.wrap_u64]; omega
theorem outS_u64 (h v : List Int) (k : Nat) : U64 (outS h v k) := by
  induction k with
  | zero => intro x hx; simp [outS] at hx
  | succ k ih =>
    intro x hx
    rcases List.mem_append.mp (show x ∈ outS h v k ++ [_] from hx) with hx | hx
    · exact ih x hx
    · rw [List.mem_singleton] at hx; subst hx; exact w6_range _
theorem hshS_u64 (K h p : List Int) (hh : U64 h) (i : Nat) : U64 (hshS K h p i) := by
  cases i with
  | zero => exact hh
  | succ i => exact outS_u64 _ _ 8
theorem outB_outL (vs : List Int) (hv : U64 vs) (k : Nat) (hk : k ≤ vs.length) : outB vs k = outL vs k := by
  induction k with
  | zero => rfl
  | succ k ih =>
    show outB vs k ++ b8S (vs.getD k 0) 8 = outL vs k ++ be8 (IntKind.i64.wrap (vs.getD k 0))
    have hx := hv (vs.getD k 0) (by rw [List.getD_eq_getElem?_getD, List.getElem?_eq_getElem (by omega)]; exact List.getElem_mem _)
    rw [ih (by omega), b8_be8, byte_wrap _ hx.1 hx.2]
theorem w6_assoc (a b c : Int) : w6 (w6 (a + b) + c) = w6 (a + w6 (b + c)) := by
  unfold w6; simp only [IntKind.wrap_u64]; omega
theorem rnd_eq (K W v : List Int) (i : Nat) : rndS K W v i = rnd K W v i := by
  unfold rndS rnd t2F
  rw [w6_assoc]
theorem rds_eq (K W h : List Int) (k : Nat) : rdsS K W h k = rds K W h k := by
  induction k with
  | zero => rfl
  | succ k ih => show rndS K W (rdsS K W h k) k = rnd K W (rds K W h k) k; rw [ih, rnd_eq]
theorem add_out (h v : List Int) (hh : h.length = 8) : addH h v 8 = outS h v 8 := by
  match h, hh with
  | [a, b, c, d, e, f, g, i], _ => rfl
theorem blk_eq (K h b : List Int) (hh : h.length = 8) : blkS K h b = blkH K h b := by
  unfold blkS blkH
  rw [add_out h _ hh, rds_eq]
theorem hsh_eq (K h p : List Int) (hh : h.length = 8) (i : Nat) : hshS K h p i = hsh K h p i := by
  induction i with
  | zero => rfl
  | succ i ih =>
    show blkS K (hshS K h p i) (blkL p i) = blkH K (hsh K h p i) (blkL p i)
    rw [blk_eq _ _ _ (hshS_length K h p hh i), ih]
theorem shaH_u64 : U64 shaH := by
  have : shaH.all (fun x => decide (0 ≤ x ∧ x < 18446744073709551616)) = true := by decide
  intro x hx
  have := List.all_eq_true.mp this x hx
  simpa using this
theorem digest_eq (l : List Int) : digestS l = digest l := by
  unfold digestS digest
  rw [padS_padL, ← hsh_eq shaK shaH _ rfl, outB_outL _ (hshS_u64 _ _ _ shaH_u64 _) 8 (by rw [hshS_length _ _ _ rfl]; exact Nat.le_refl _)]
end Go.Proofs.Ytlphppkhihabdaa.ShaA
