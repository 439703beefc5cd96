/- What the reference's block does to the eight numbers: plain Lean on lists of whole numbers. -/
import Derived.Test.YtlphppkhihabdaaYShaA
set_option linter.unusedVariables false
namespace Go.Proofs.Ytlphppkhihabdaa.ShaA
open Go Go.RowKit Go.Proofs.Ytlphppkhihabdaa.Limb Go.Proofs.Ytlphppkhihabdaa.Arr Go.Proofs.YtlphppkhihabdaaW.PrintWords
def rndS (K W v : List Int) (i : Nat) : List Int :=
  [w6 (w6 (t1F K W v i + sC (v.getD 0 0)) + mjF (v.getD 0 0) (v.getD 1 0) (v.getD 2 0)), v.getD 0 0, v.getD 1 0, v.getD 2 0, w6 (v.getD 3 0 + t1F K W v i), v.getD 4 0, v.getD 5 0, v.getD 6 0]
def rdsS (K W h : List Int) : Nat → List Int
  | 0 => h
  | k + 1 => rndS K W (rdsS K W h k) k
theorem rdsS_length (K W h : List Int) (hh : h.length = 8) (k : Nat) : (rdsS K W h k).length = 8 := by
  cases k with
  | zero => exact hh
  | succ k => rfl
def outS (h v : List Int) : Nat → List Int
  | 0 => []
  | k + 1 => outS h v k ++ [w6 (h.getD k 0 + v.getD k 0)]
theorem outS_length (h v : List Int) (k : Nat) : (outS h v k).length = k := by
  induction k with
  | zero => rfl
  | succ k ih => show (outS h v k ++ [_]).length = _; rw [List.length_append, ih]; rfl
def blkS (K h b : List Int) : List Int := outS h (rdsS K (wB b 64) h 80) 8
/-- place i of the list, k of its eight bytes taken in -/
def wAk (b : List Int) (i k : Nat) : List Int := (wA b i).set i (bin8 (cut8 b i) k)
theorem wA_zero (b : List Int) (k : Nat) : ∀ j, k ≤ j → (wA b k).getD j 0 = 0 := by
  induction k with
  | zero =>
    intro j _
    show z80.getD j 0 = 0
    unfold z80
    rw [List.getD_eq_getElem?_getD, List.getElem?_replicate]; split <;> rfl
  | succ k ih =>
    intro j hj
    show ((wA b k).set k _).getD j 0 = 0
    rw [List.getD_eq_getElem?_getD, List.getElem?_set_ne (by omega), ← List.getD_eq_getElem?_getD]
    exact ih j (by omega)
theorem wAk_zero (b : List Int) (i : Nat) (hi : i < 80) : wAk b i 0 = wA b i := by
  have h0 := wA_zero b i i (Nat.le_refl _)
  unfold wAk
  show (wA b i).set i 0 = _
  rw [← h0, List.getD_eq_getElem?_getD, List.getElem?_eq_getElem (by rw [wA_length]; exact hi)]
  simp
theorem wAk_length (b : List Int) (i k : Nat) : (wAk b i k).length = 80 := by
  unfold wAk; rw [List.length_set, wA_length]
theorem wAk_get (b : List Int) (i k : Nat) (hi : i < 80) : (wAk b i k).getD i 0 = bin8 (cut8 b i) k := by
  unfold wAk
  rw [List.getD_eq_getElem?_getD, List.getElem?_set_self (by rw [wA_length]; exact hi)]; rfl
theorem cut8_get (b : List Int) (hb : b.length = 128) (i k : Nat) (hi : i < 16) (hk : k < 8) : (cut8 b i).getD k 0 = b.getD (8 * i + k) 0 := by
  unfold cut8
  rw [List.getD_eq_getElem?_getD, List.getD_eq_getElem?_getD, List.getElem?_drop, List.getElem?_take, if_pos (by omega)]
theorem wAk_next (b : List Int) (hb : b.length = 128) (i k : Nat) (hi : i < 16) (hk : k < 8) : wAk b i (k + 1) = (wAk b i k).set i (bits .or .u64 (w6 ((wAk b i k).getD i 0 * 256)) (w6 (b.getD (8 * i + k) 0))) := by
  rw [wAk_get b i k (by omega), ← cut8_get b hb i k hi hk]
  unfold wAk
  rw [List.set_set]; rfl
end Go.Proofs.Ytlphppkhihabdaa.ShaA
namespace Go.Proofs.Ytlphppkhihabdaa.ShaB
theorem here : True := trivial
end Go.Proofs.Ytlphppkhihabdaa.ShaB
